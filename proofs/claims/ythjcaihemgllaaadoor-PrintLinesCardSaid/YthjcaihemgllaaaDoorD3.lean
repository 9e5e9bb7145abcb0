/-
  For one seat, what its law needs of: E11, E12, E13, E14, E15, E16, E17, E18, E19.
-/
import Derived.Test.YthjcaihemgllaaaDoorD2
namespace Go.HH
open Go Go.Proofs
set_option maxRecDepth 100000
set_option linter.unusedSimpArgs false
set_option linter.unusedVariables false
set_option maxHeartbeats 4000000
theorem ok_L30_plain : fnOK CC Tryd.f4 (Tryd.f4.body.getD .skip) = true := by kernel_rfl
theorem fat_L30_plain : CC.P.funcs[4]? = some Tryd.f4 := by kernel_rfl
def plTg (t : Tg) : Bool := decide (t.nm.length ≤ 100 ∧ t.key.2.1.length ≤ 100 ∧ t.key.2.2.length ≤ 100 ∧ t.ev.2.1.length ≤ 100 ∧ t.ev.2.2.length ≤ 100)
def plSp (s : Sp) : Bool := decide (s.nm.length ≤ 100 ∧ s.key.2.1.length ≤ 100 ∧ s.key.2.2.length ≤ 100 ∧ 0 ≤ mdT s.ex 220 30)
def plRl (r : Rl) : Bool := decide (r.nm.length ≤ 100 ∧ r.on.length ≤ 12 ∧ r.dos.length ≤ 12 ∧ 0 ≤ mdT r.ife 220 30) && r.on.all plTg && r.dos.all plSp
theorem TGf : zeroCells CC 45 = some [.int .i64 0, .int .i64 0, .str [], .str [], .int .i64 0, .str [], .str [], .str [], .int .i64 0, .int .i64 0] := by kernel_rfl
theorem SPf : zeroCells CC 47 = some [.int .i64 0, .int .i64 0, .str [], .str [], .str [], .int .i64 0, .int .i64 0, .int .i64 0, .str [], .int .i64 0, .int .i64 0, .str [], .int .i64 0, .str [], .str [], .nils] := by kernel_rfl
/-- what a loop leaves: it went through, or it returned false -/
def PPl (j : Nat) (bx : List PBox) (v : Bool) (res : Option (Ex × St)) : Prop := ∃ e' ex, (v = true ∧ res = some (.exit j, ⟨e', bx ++ ex⟩) ∧ getT e' 1 = .bp 0 0) ∨ (v = false ∧ res = some (.ret, ⟨e', bx ++ ex⟩) ∧ getT e' 2 = .bool false)
theorem PPl.app {j : Nat} {bx : List PBox} {x : PBox} {v : Bool} {res : Option (Ex × St)} (h : PPl j (bx ++ [x]) v res) : PPl j bx v res := by
  obtain ⟨e', ex, h⟩ := h
  refine ⟨e', [x] ++ ex, ?_⟩
  rw [← List.append_assoc]
  exact h
theorem loop_on (L : Code) (hL : L = fpart Tryd.f4 [1,1,0,1,0]) (l : List Tg) (hl : l.length ≤ 12) : ∀ (k i : Nat) (e : List PV) (bx : List PBox), i + k = l.length →
    getT e 1 = .bp 0 0 → getT e 30 = .sl (l.map tgV) → getT e 31 = .int .i64 l.length → getT e 32 = .int .i64 i → PPl 0 bx ((l.drop i).all plTg) (evL CC L ⟨e, bx⟩) := by
  intro k
  induction k with
  | zero =>
    intro i e bx hi0 e1 es el ei
    rw [evL_at (fpart Tryd.f4 [1,1,0,1,0,0]) hL]
    have hi : ¬ ((i : Int) < (l.length : Int)) := by omega
    rw [List.drop_eq_nil_of_le (by omega)]
    rw [List.all_nil]
    obtain ⟨tu, htu⟩ := VLs
    obtain ⟨tr, htr⟩ := TRs
    obtain ⟨tk, hky⟩ := KYs
    obtain ⟨te, hev1⟩ := EVs
    obtain ⟨tg, htg⟩ := TG_s
    obtain ⟨tp, hsp⟩ := SPs
    obtain ⟨tl, hrl⟩ := RLs
    generalize l.map tgV = xs at *
    obtain ⟨ev, eo, so, co, ⟨hev, hco⟩, R⟩ := RULES CC; rw [← hev]
    simp only [fpart, part', Tryd.f4, Option.getD]
    simp (maxSteps := 5000000) only [SA, SB, SD, R, guardAt, binP, intP, indexAddrP, elemsOf, readCells, lenP, lenAt, resultsP, resultP, oneOr, reduceCtorEq, reduceIte, Nat.reduceEqDiff, Nat.reduceAdd, Nat.zero_add, Nat.reduceMul, Nat.reduceLT, Nat.reduceLeDiff, Int.reduceLT, Int.reduceNeg, Int.reduceLE, appendP, appendAt, letGo, setLoc, locVal, Int.reduceToNat, boxCells, und, TG, SE, SC, TGf, SPf, List.getElem?_concat_length, List.getElem?_cons_zero, List.getElem?_cons_succ, List.take_nil, unP, htu, htr, hky, hev1, htg, hsp, hrl, loadR, loadP, lay, List.take_succ_cons, List.take_zero, List.drop_nil, List.filter_nil, List.cons_append, Int.reduceBEq, Int.reduceBNe, Int.reduceGT, Int.reduceGE, Bool.not_true, Bool.not_false, e1, es, el, ei, hi]
    exact ⟨_, [], .inl ⟨rfl, by rw [List.append_nil], by simp (maxSteps := 5000000) only [SA, SB, SD, R, guardAt, binP, intP, indexAddrP, elemsOf, readCells, lenP, lenAt, resultsP, resultP, oneOr, reduceCtorEq, reduceIte, Nat.reduceEqDiff, Nat.reduceAdd, Nat.zero_add, Nat.reduceMul, Nat.reduceLT, Nat.reduceLeDiff, Int.reduceLT, Int.reduceNeg, Int.reduceLE, appendP, appendAt, letGo, setLoc, locVal, Int.reduceToNat, boxCells, und, e1]⟩⟩
  | succ k ih =>
    intro i e bx hi0 e1 es el ei
    rw [evL_at (fpart Tryd.f4 [1,1,0,1,0,0]) hL]
    have hi : ((i : Int) < (l.length : Int)) := by omega
    have hi0' : ¬ ((i : Int) < 0) := by omega
    have hdr : l.drop i = (l[i]'(by omega)) :: l.drop (i + 1) := List.drop_eq_getElem_cons (by omega)
    have hx : (l.map tgV)[i]? = some (tgV (l[i]'(by omega))) := by rw [List.getElem?_map, List.getElem?_eq_getElem (by omega)]; rfl
    have hw1 := wrap_i64 (n := (i : Int) + 1) ⟨by omega, by omega⟩
    have key := fun e bx => ih (i + 1) e bx (by omega)
    have cast1 : ((i + 1 : Nat) : Int) = (i : Int) + 1 := by omega
    rw [cast1] at key
    rw [hdr, List.all_cons]
    generalize l[i]'(by omega) = x at *
    generalize (l.drop (i + 1)).all plTg = v at *
    generalize l.map tgV = xs at *
    obtain ⟨xk, xkey, xev, xnm, xn, xm⟩ := x
    obtain ⟨xd, xcl, xat⟩ := xkey
    obtain ⟨yd, yc, yn⟩ := xev
    have l1 := len_str xnm
    have l2 := len_str xcl
    have l3 := len_str xat
    have l4 := len_str yc
    have l5 := len_str yn
    unfold tgV at hx
    simp only at hx
    obtain ⟨tu, htu⟩ := VLs
    obtain ⟨tr, htr⟩ := TRs
    obtain ⟨tk, hky⟩ := KYs
    obtain ⟨te, hev1⟩ := EVs
    obtain ⟨tg, htg⟩ := TG_s
    obtain ⟨tp, hsp⟩ := SPs
    obtain ⟨tl, hrl⟩ := RLs
    by_cases c0 : ((xnm.length : Int) > 100)
    · rw [show plTg ⟨xk, (xd, xcl, xat), (yd, yc, yn), xnm, xn, xm⟩ = false by unfold plTg; simp only [decide_eq_false_iff_not]; intro h; have := h.1; omega, Bool.false_and]
      obtain ⟨ev, eo, so, co, ⟨hev, hco⟩, R⟩ := RULES CC; rw [← hev]
      skip
      simp only [fpart, part', Tryd.f4, Option.getD]
      simp (maxSteps := 5000000) only [SA, SB, SD, R, guardAt, binP, intP, indexAddrP, elemsOf, readCells, lenP, lenAt, resultsP, resultP, oneOr, reduceCtorEq, reduceIte, Nat.reduceEqDiff, Nat.reduceAdd, Nat.zero_add, Nat.reduceMul, Nat.reduceLT, Nat.reduceLeDiff, Int.reduceLT, Int.reduceNeg, Int.reduceLE, appendP, appendAt, letGo, setLoc, locVal, Int.reduceToNat, boxCells, und, TG, SE, SC, TGf, SPf, List.getElem?_concat_length, List.getElem?_cons_zero, List.getElem?_cons_succ, List.take_nil, unP, htu, htr, hky, hev1, htg, hsp, hrl, loadR, loadP, lay, List.take_succ_cons, List.take_zero, List.drop_nil, List.filter_nil, List.cons_append, Int.reduceBEq, Int.reduceBNe, Int.reduceGT, Int.reduceGE, Bool.not_true, Bool.not_false, e1, es, el, ei, hi, hi0', hx, l1, l2, l3, l4, l5, c0]
      exact ⟨_, _, .inr ⟨rfl, rfl, by simp (maxSteps := 5000000) only [SA, SB, SD, R, guardAt, binP, intP, indexAddrP, elemsOf, readCells, lenP, lenAt, resultsP, resultP, oneOr, reduceCtorEq, reduceIte, Nat.reduceEqDiff, Nat.reduceAdd, Nat.zero_add, Nat.reduceMul, Nat.reduceLT, Nat.reduceLeDiff, Int.reduceLT, Int.reduceNeg, Int.reduceLE, appendP, appendAt, letGo, setLoc, locVal, Int.reduceToNat, boxCells, und]⟩⟩
    by_cases c1 : ((xcl.length : Int) > 100)
    · rw [show plTg ⟨xk, (xd, xcl, xat), (yd, yc, yn), xnm, xn, xm⟩ = false by unfold plTg; simp only [decide_eq_false_iff_not]; intro h; have := h.2.1; omega, Bool.false_and]
      obtain ⟨ev, eo, so, co, ⟨hev, hco⟩, R⟩ := RULES CC; rw [← hev]
      skip
      simp only [fpart, part', Tryd.f4, Option.getD]
      simp (maxSteps := 5000000) only [SA, SB, SD, R, guardAt, binP, intP, indexAddrP, elemsOf, readCells, lenP, lenAt, resultsP, resultP, oneOr, reduceCtorEq, reduceIte, Nat.reduceEqDiff, Nat.reduceAdd, Nat.zero_add, Nat.reduceMul, Nat.reduceLT, Nat.reduceLeDiff, Int.reduceLT, Int.reduceNeg, Int.reduceLE, appendP, appendAt, letGo, setLoc, locVal, Int.reduceToNat, boxCells, und, TG, SE, SC, TGf, SPf, List.getElem?_concat_length, List.getElem?_cons_zero, List.getElem?_cons_succ, List.take_nil, unP, htu, htr, hky, hev1, htg, hsp, hrl, loadR, loadP, lay, List.take_succ_cons, List.take_zero, List.drop_nil, List.filter_nil, List.cons_append, Int.reduceBEq, Int.reduceBNe, Int.reduceGT, Int.reduceGE, Bool.not_true, Bool.not_false, e1, es, el, ei, hi, hi0', hx, l1, l2, l3, l4, l5, c0, c1]
      exact ⟨_, _, .inr ⟨rfl, rfl, by simp (maxSteps := 5000000) only [SA, SB, SD, R, guardAt, binP, intP, indexAddrP, elemsOf, readCells, lenP, lenAt, resultsP, resultP, oneOr, reduceCtorEq, reduceIte, Nat.reduceEqDiff, Nat.reduceAdd, Nat.zero_add, Nat.reduceMul, Nat.reduceLT, Nat.reduceLeDiff, Int.reduceLT, Int.reduceNeg, Int.reduceLE, appendP, appendAt, letGo, setLoc, locVal, Int.reduceToNat, boxCells, und]⟩⟩
    by_cases c2 : ((xat.length : Int) > 100)
    · rw [show plTg ⟨xk, (xd, xcl, xat), (yd, yc, yn), xnm, xn, xm⟩ = false by unfold plTg; simp only [decide_eq_false_iff_not]; intro h; have := h.2.2.1; omega, Bool.false_and]
      obtain ⟨ev, eo, so, co, ⟨hev, hco⟩, R⟩ := RULES CC; rw [← hev]
      skip
      simp only [fpart, part', Tryd.f4, Option.getD]
      simp (maxSteps := 5000000) only [SA, SB, SD, R, guardAt, binP, intP, indexAddrP, elemsOf, readCells, lenP, lenAt, resultsP, resultP, oneOr, reduceCtorEq, reduceIte, Nat.reduceEqDiff, Nat.reduceAdd, Nat.zero_add, Nat.reduceMul, Nat.reduceLT, Nat.reduceLeDiff, Int.reduceLT, Int.reduceNeg, Int.reduceLE, appendP, appendAt, letGo, setLoc, locVal, Int.reduceToNat, boxCells, und, TG, SE, SC, TGf, SPf, List.getElem?_concat_length, List.getElem?_cons_zero, List.getElem?_cons_succ, List.take_nil, unP, htu, htr, hky, hev1, htg, hsp, hrl, loadR, loadP, lay, List.take_succ_cons, List.take_zero, List.drop_nil, List.filter_nil, List.cons_append, Int.reduceBEq, Int.reduceBNe, Int.reduceGT, Int.reduceGE, Bool.not_true, Bool.not_false, e1, es, el, ei, hi, hi0', hx, l1, l2, l3, l4, l5, c0, c1, c2]
      exact ⟨_, _, .inr ⟨rfl, rfl, by simp (maxSteps := 5000000) only [SA, SB, SD, R, guardAt, binP, intP, indexAddrP, elemsOf, readCells, lenP, lenAt, resultsP, resultP, oneOr, reduceCtorEq, reduceIte, Nat.reduceEqDiff, Nat.reduceAdd, Nat.zero_add, Nat.reduceMul, Nat.reduceLT, Nat.reduceLeDiff, Int.reduceLT, Int.reduceNeg, Int.reduceLE, appendP, appendAt, letGo, setLoc, locVal, Int.reduceToNat, boxCells, und]⟩⟩
    by_cases c3 : ((yc.length : Int) > 100)
    · rw [show plTg ⟨xk, (xd, xcl, xat), (yd, yc, yn), xnm, xn, xm⟩ = false by unfold plTg; simp only [decide_eq_false_iff_not]; intro h; have := h.2.2.2.1; omega, Bool.false_and]
      obtain ⟨ev, eo, so, co, ⟨hev, hco⟩, R⟩ := RULES CC; rw [← hev]
      skip
      simp only [fpart, part', Tryd.f4, Option.getD]
      simp (maxSteps := 5000000) only [SA, SB, SD, R, guardAt, binP, intP, indexAddrP, elemsOf, readCells, lenP, lenAt, resultsP, resultP, oneOr, reduceCtorEq, reduceIte, Nat.reduceEqDiff, Nat.reduceAdd, Nat.zero_add, Nat.reduceMul, Nat.reduceLT, Nat.reduceLeDiff, Int.reduceLT, Int.reduceNeg, Int.reduceLE, appendP, appendAt, letGo, setLoc, locVal, Int.reduceToNat, boxCells, und, TG, SE, SC, TGf, SPf, List.getElem?_concat_length, List.getElem?_cons_zero, List.getElem?_cons_succ, List.take_nil, unP, htu, htr, hky, hev1, htg, hsp, hrl, loadR, loadP, lay, List.take_succ_cons, List.take_zero, List.drop_nil, List.filter_nil, List.cons_append, Int.reduceBEq, Int.reduceBNe, Int.reduceGT, Int.reduceGE, Bool.not_true, Bool.not_false, e1, es, el, ei, hi, hi0', hx, l1, l2, l3, l4, l5, c0, c1, c2, c3]
      exact ⟨_, _, .inr ⟨rfl, rfl, by simp (maxSteps := 5000000) only [SA, SB, SD, R, guardAt, binP, intP, indexAddrP, elemsOf, readCells, lenP, lenAt, resultsP, resultP, oneOr, reduceCtorEq, reduceIte, Nat.reduceEqDiff, Nat.reduceAdd, Nat.zero_add, Nat.reduceMul, Nat.reduceLT, Nat.reduceLeDiff, Int.reduceLT, Int.reduceNeg, Int.reduceLE, appendP, appendAt, letGo, setLoc, locVal, Int.reduceToNat, boxCells, und]⟩⟩
    by_cases c4 : ((yn.length : Int) > 100)
    · rw [show plTg ⟨xk, (xd, xcl, xat), (yd, yc, yn), xnm, xn, xm⟩ = false by unfold plTg; simp only [decide_eq_false_iff_not]; intro h; have := h.2.2.2.2; omega, Bool.false_and]
      obtain ⟨ev, eo, so, co, ⟨hev, hco⟩, R⟩ := RULES CC; rw [← hev]
      skip
      simp only [fpart, part', Tryd.f4, Option.getD]
      simp (maxSteps := 5000000) only [SA, SB, SD, R, guardAt, binP, intP, indexAddrP, elemsOf, readCells, lenP, lenAt, resultsP, resultP, oneOr, reduceCtorEq, reduceIte, Nat.reduceEqDiff, Nat.reduceAdd, Nat.zero_add, Nat.reduceMul, Nat.reduceLT, Nat.reduceLeDiff, Int.reduceLT, Int.reduceNeg, Int.reduceLE, appendP, appendAt, letGo, setLoc, locVal, Int.reduceToNat, boxCells, und, TG, SE, SC, TGf, SPf, List.getElem?_concat_length, List.getElem?_cons_zero, List.getElem?_cons_succ, List.take_nil, unP, htu, htr, hky, hev1, htg, hsp, hrl, loadR, loadP, lay, List.take_succ_cons, List.take_zero, List.drop_nil, List.filter_nil, List.cons_append, Int.reduceBEq, Int.reduceBNe, Int.reduceGT, Int.reduceGE, Bool.not_true, Bool.not_false, e1, es, el, ei, hi, hi0', hx, l1, l2, l3, l4, l5, c0, c1, c2, c3, c4]
      exact ⟨_, _, .inr ⟨rfl, rfl, by simp (maxSteps := 5000000) only [SA, SB, SD, R, guardAt, binP, intP, indexAddrP, elemsOf, readCells, lenP, lenAt, resultsP, resultP, oneOr, reduceCtorEq, reduceIte, Nat.reduceEqDiff, Nat.reduceAdd, Nat.zero_add, Nat.reduceMul, Nat.reduceLT, Nat.reduceLeDiff, Int.reduceLT, Int.reduceNeg, Int.reduceLE, appendP, appendAt, letGo, setLoc, locVal, Int.reduceToNat, boxCells, und]⟩⟩
    rw [show plTg ⟨xk, (xd, xcl, xat), (yd, yc, yn), xnm, xn, xm⟩ = true by unfold plTg; simp only [decide_eq_true_eq]; exact ⟨by omega, by omega, by omega, by omega, by omega⟩, Bool.true_and]
    apply PPl.app
    obtain ⟨ev, eo, so, co, ⟨hev, hco⟩, R⟩ := RULES CC; rw [← hev]
    rw [← hev] at key
    skip
    simp only [fpart, part', Tryd.f4, Option.getD]
    simp (maxSteps := 5000000) only [SA, SB, SD, R, guardAt, binP, intP, indexAddrP, elemsOf, readCells, lenP, lenAt, resultsP, resultP, oneOr, reduceCtorEq, reduceIte, Nat.reduceEqDiff, Nat.reduceAdd, Nat.zero_add, Nat.reduceMul, Nat.reduceLT, Nat.reduceLeDiff, Int.reduceLT, Int.reduceNeg, Int.reduceLE, appendP, appendAt, letGo, setLoc, locVal, Int.reduceToNat, boxCells, und, TG, SE, SC, TGf, SPf, List.getElem?_concat_length, List.getElem?_cons_zero, List.getElem?_cons_succ, List.take_nil, unP, htu, htr, hky, hev1, htg, hsp, hrl, loadR, loadP, lay, List.take_succ_cons, List.take_zero, List.drop_nil, List.filter_nil, List.cons_append, Int.reduceBEq, Int.reduceBNe, Int.reduceGT, Int.reduceGE, Bool.not_true, Bool.not_false, e1, es, el, ei, hi, hi0', hx, hw1, l1, l2, l3, l4, l5, c0, c1, c2, c3, c4]
    refine key _ _ ?_ ?_ ?_ ?_
    all_goals simp (maxSteps := 5000000) only [SA, SB, SD, R, guardAt, binP, intP, indexAddrP, elemsOf, readCells, lenP, lenAt, resultsP, resultP, oneOr, reduceCtorEq, reduceIte, Nat.reduceEqDiff, Nat.reduceAdd, Nat.zero_add, Nat.reduceMul, Nat.reduceLT, Nat.reduceLeDiff, Int.reduceLT, Int.reduceNeg, Int.reduceLE, appendP, appendAt, letGo, setLoc, locVal, Int.reduceToNat, boxCells, und, e1, es, el, ei]
theorem loop_do (L : Code) (hL : L = fpart Tryd.f4 [1,1,1,0,1,0]) (l : List Sp) (hl : l.length ≤ 12) : ∀ (k i : Nat) (e : List PV) (bx : List PBox), i + k = l.length →
    getT e 1 = .bp 0 0 → getT e 70 = .sl (l.map spV) → getT e 71 = .int .i64 l.length → getT e 72 = .int .i64 i → PPl 2 bx ((l.drop i).all plSp) (evL CC L ⟨e, bx⟩) := by
  intro k
  induction k with
  | zero =>
    intro i e bx hi0 e1 es el ei
    rw [evL_at (fpart Tryd.f4 [1,1,1,0,1,0,0]) hL]
    have hi : ¬ ((i : Int) < (l.length : Int)) := by omega
    rw [List.drop_eq_nil_of_le (by omega)]
    rw [List.all_nil]
    obtain ⟨tu, htu⟩ := VLs
    obtain ⟨tr, htr⟩ := TRs
    obtain ⟨tk, hky⟩ := KYs
    obtain ⟨te, hev1⟩ := EVs
    obtain ⟨tg, htg⟩ := TG_s
    obtain ⟨tp, hsp⟩ := SPs
    obtain ⟨tl, hrl⟩ := RLs
    generalize l.map spV = xs at *
    obtain ⟨ev, eo, so, co, ⟨hev, hco⟩, R⟩ := RULES CC; rw [← hev]
    simp only [fpart, part', Tryd.f4, Option.getD]
    simp (maxSteps := 5000000) only [SA, SB, SD, R, guardAt, binP, intP, indexAddrP, elemsOf, readCells, lenP, lenAt, resultsP, resultP, oneOr, reduceCtorEq, reduceIte, Nat.reduceEqDiff, Nat.reduceAdd, Nat.zero_add, Nat.reduceMul, Nat.reduceLT, Nat.reduceLeDiff, Int.reduceLT, Int.reduceNeg, Int.reduceLE, appendP, appendAt, letGo, setLoc, locVal, Int.reduceToNat, boxCells, und, TG, SE, SC, TGf, SPf, List.getElem?_concat_length, List.getElem?_cons_zero, List.getElem?_cons_succ, List.take_nil, unP, htu, htr, hky, hev1, htg, hsp, hrl, loadR, loadP, lay, List.take_succ_cons, List.take_zero, List.drop_nil, List.filter_nil, List.cons_append, Int.reduceBEq, Int.reduceBNe, Int.reduceGT, Int.reduceGE, Bool.not_true, Bool.not_false, e1, es, el, ei, hi]
    exact ⟨_, [], .inl ⟨rfl, by rw [List.append_nil], by simp (maxSteps := 5000000) only [SA, SB, SD, R, guardAt, binP, intP, indexAddrP, elemsOf, readCells, lenP, lenAt, resultsP, resultP, oneOr, reduceCtorEq, reduceIte, Nat.reduceEqDiff, Nat.reduceAdd, Nat.zero_add, Nat.reduceMul, Nat.reduceLT, Nat.reduceLeDiff, Int.reduceLT, Int.reduceNeg, Int.reduceLE, appendP, appendAt, letGo, setLoc, locVal, Int.reduceToNat, boxCells, und, e1]⟩⟩
  | succ k ih =>
    intro i e bx hi0 e1 es el ei
    rw [evL_at (fpart Tryd.f4 [1,1,1,0,1,0,0]) hL]
    have hi : ((i : Int) < (l.length : Int)) := by omega
    have hi0' : ¬ ((i : Int) < 0) := by omega
    have hdr : l.drop i = (l[i]'(by omega)) :: l.drop (i + 1) := List.drop_eq_getElem_cons (by omega)
    have hx : (l.map spV)[i]? = some (spV (l[i]'(by omega))) := by rw [List.getElem?_map, List.getElem?_eq_getElem (by omega)]; rfl
    have hw1 := wrap_i64 (n := (i : Int) + 1) ⟨by omega, by omega⟩
    have key := fun e bx => ih (i + 1) e bx (by omega)
    have cast1 : ((i + 1 : Nat) : Int) = (i : Int) + 1 := by omega
    rw [cast1] at key
    rw [hdr, List.all_cons]
    generalize l[i]'(by omega) = x at *
    generalize (l.drop (i + 1)).all plSp = v at *
    generalize l.map spV = xs at *
    obtain ⟨xk, xkey, xnm, xt⟩ := x
    obtain ⟨xd, xcl, xat⟩ := xkey
    have l1 := len_str xnm
    have l2 := len_str xcl
    have l3 := len_str xat
    have hmd := op_modest xt 220 30 (by decide) (by decide)
    obtain ⟨res, hres⟩ : ∃ res, res = mdT xt 220 30 := ⟨_, rfl⟩
    rw [← hres] at hmd
    have hxt : ∃ k n m nm v key kids, xt = Tr.mk k n m nm v key kids := by obtain ⟨k, n, m, nm, v, key, kids⟩ := xt; exact ⟨k, n, m, nm, v, key, kids, rfl⟩
    obtain ⟨zk, zn, zm, znm, zv, zkey, zkids, hxt⟩ := hxt
    unfold spV trC at hx
    simp only at hx
    rw [hxt] at hx hmd
    unfold trV at hx hmd
    simp only [SA, List.cons_append, List.nil_append] at hx hmd
    generalize trVs zkids = zs at *
    obtain ⟨tu, htu⟩ := VLs
    obtain ⟨tr, htr⟩ := TRs
    obtain ⟨tk, hky⟩ := KYs
    obtain ⟨te, hev1⟩ := EVs
    obtain ⟨tg, htg⟩ := TG_s
    obtain ⟨tp, hsp⟩ := SPs
    obtain ⟨tl, hrl⟩ := RLs
    by_cases c0 : ((xnm.length : Int) > 100)
    · rw [show plSp ⟨xk, (xd, xcl, xat), xnm, xt⟩ = false by unfold plSp; simp only [decide_eq_false_iff_not]; intro h; have := h.1; omega, Bool.false_and]
      obtain ⟨ev, eo, so, co, ⟨hev, hco⟩, R⟩ := RULES CC; rw [← hev]
      rw [← hco] at hmd
      simp only [fpart, part', Tryd.f4, Option.getD]
      simp (maxSteps := 5000000) only [SA, SB, SD, R, guardAt, binP, intP, indexAddrP, elemsOf, readCells, lenP, lenAt, resultsP, resultP, oneOr, reduceCtorEq, reduceIte, Nat.reduceEqDiff, Nat.reduceAdd, Nat.zero_add, Nat.reduceMul, Nat.reduceLT, Nat.reduceLeDiff, Int.reduceLT, Int.reduceNeg, Int.reduceLE, appendP, appendAt, letGo, setLoc, locVal, Int.reduceToNat, boxCells, und, TG, SE, SC, TGf, SPf, List.getElem?_concat_length, List.getElem?_cons_zero, List.getElem?_cons_succ, List.take_nil, unP, htu, htr, hky, hev1, htg, hsp, hrl, loadR, loadP, lay, List.take_succ_cons, List.take_zero, List.drop_nil, List.filter_nil, List.cons_append, Int.reduceBEq, Int.reduceBNe, Int.reduceGT, Int.reduceGE, Bool.not_true, Bool.not_false, e1, es, el, ei, hi, hi0', hx, l1, l2, l3, hmd, c0]
      exact ⟨_, _, .inr ⟨rfl, rfl, by simp (maxSteps := 5000000) only [SA, SB, SD, R, guardAt, binP, intP, indexAddrP, elemsOf, readCells, lenP, lenAt, resultsP, resultP, oneOr, reduceCtorEq, reduceIte, Nat.reduceEqDiff, Nat.reduceAdd, Nat.zero_add, Nat.reduceMul, Nat.reduceLT, Nat.reduceLeDiff, Int.reduceLT, Int.reduceNeg, Int.reduceLE, appendP, appendAt, letGo, setLoc, locVal, Int.reduceToNat, boxCells, und]⟩⟩
    by_cases c1 : ((xcl.length : Int) > 100)
    · rw [show plSp ⟨xk, (xd, xcl, xat), xnm, xt⟩ = false by unfold plSp; simp only [decide_eq_false_iff_not]; intro h; have := h.2.1; omega, Bool.false_and]
      obtain ⟨ev, eo, so, co, ⟨hev, hco⟩, R⟩ := RULES CC; rw [← hev]
      rw [← hco] at hmd
      simp only [fpart, part', Tryd.f4, Option.getD]
      simp (maxSteps := 5000000) only [SA, SB, SD, R, guardAt, binP, intP, indexAddrP, elemsOf, readCells, lenP, lenAt, resultsP, resultP, oneOr, reduceCtorEq, reduceIte, Nat.reduceEqDiff, Nat.reduceAdd, Nat.zero_add, Nat.reduceMul, Nat.reduceLT, Nat.reduceLeDiff, Int.reduceLT, Int.reduceNeg, Int.reduceLE, appendP, appendAt, letGo, setLoc, locVal, Int.reduceToNat, boxCells, und, TG, SE, SC, TGf, SPf, List.getElem?_concat_length, List.getElem?_cons_zero, List.getElem?_cons_succ, List.take_nil, unP, htu, htr, hky, hev1, htg, hsp, hrl, loadR, loadP, lay, List.take_succ_cons, List.take_zero, List.drop_nil, List.filter_nil, List.cons_append, Int.reduceBEq, Int.reduceBNe, Int.reduceGT, Int.reduceGE, Bool.not_true, Bool.not_false, e1, es, el, ei, hi, hi0', hx, l1, l2, l3, hmd, c0, c1]
      exact ⟨_, _, .inr ⟨rfl, rfl, by simp (maxSteps := 5000000) only [SA, SB, SD, R, guardAt, binP, intP, indexAddrP, elemsOf, readCells, lenP, lenAt, resultsP, resultP, oneOr, reduceCtorEq, reduceIte, Nat.reduceEqDiff, Nat.reduceAdd, Nat.zero_add, Nat.reduceMul, Nat.reduceLT, Nat.reduceLeDiff, Int.reduceLT, Int.reduceNeg, Int.reduceLE, appendP, appendAt, letGo, setLoc, locVal, Int.reduceToNat, boxCells, und]⟩⟩
    by_cases c2 : ((xat.length : Int) > 100)
    · rw [show plSp ⟨xk, (xd, xcl, xat), xnm, xt⟩ = false by unfold plSp; simp only [decide_eq_false_iff_not]; intro h; have := h.2.2.1; omega, Bool.false_and]
      obtain ⟨ev, eo, so, co, ⟨hev, hco⟩, R⟩ := RULES CC; rw [← hev]
      rw [← hco] at hmd
      simp only [fpart, part', Tryd.f4, Option.getD]
      simp (maxSteps := 5000000) only [SA, SB, SD, R, guardAt, binP, intP, indexAddrP, elemsOf, readCells, lenP, lenAt, resultsP, resultP, oneOr, reduceCtorEq, reduceIte, Nat.reduceEqDiff, Nat.reduceAdd, Nat.zero_add, Nat.reduceMul, Nat.reduceLT, Nat.reduceLeDiff, Int.reduceLT, Int.reduceNeg, Int.reduceLE, appendP, appendAt, letGo, setLoc, locVal, Int.reduceToNat, boxCells, und, TG, SE, SC, TGf, SPf, List.getElem?_concat_length, List.getElem?_cons_zero, List.getElem?_cons_succ, List.take_nil, unP, htu, htr, hky, hev1, htg, hsp, hrl, loadR, loadP, lay, List.take_succ_cons, List.take_zero, List.drop_nil, List.filter_nil, List.cons_append, Int.reduceBEq, Int.reduceBNe, Int.reduceGT, Int.reduceGE, Bool.not_true, Bool.not_false, e1, es, el, ei, hi, hi0', hx, l1, l2, l3, hmd, c0, c1, c2]
      exact ⟨_, _, .inr ⟨rfl, rfl, by simp (maxSteps := 5000000) only [SA, SB, SD, R, guardAt, binP, intP, indexAddrP, elemsOf, readCells, lenP, lenAt, resultsP, resultP, oneOr, reduceCtorEq, reduceIte, Nat.reduceEqDiff, Nat.reduceAdd, Nat.zero_add, Nat.reduceMul, Nat.reduceLT, Nat.reduceLeDiff, Int.reduceLT, Int.reduceNeg, Int.reduceLE, appendP, appendAt, letGo, setLoc, locVal, Int.reduceToNat, boxCells, und]⟩⟩
    by_cases c3 : res < 0
    · rw [show plSp ⟨xk, (xd, xcl, xat), xnm, xt⟩ = false by unfold plSp; simp only [decide_eq_false_iff_not]; intro h; have := h.2.2.2; omega, Bool.false_and]
      obtain ⟨ev, eo, so, co, ⟨hev, hco⟩, R⟩ := RULES CC; rw [← hev]
      rw [← hco] at hmd
      simp only [fpart, part', Tryd.f4, Option.getD]
      simp (maxSteps := 5000000) only [SA, SB, SD, R, guardAt, binP, intP, indexAddrP, elemsOf, readCells, lenP, lenAt, resultsP, resultP, oneOr, reduceCtorEq, reduceIte, Nat.reduceEqDiff, Nat.reduceAdd, Nat.zero_add, Nat.reduceMul, Nat.reduceLT, Nat.reduceLeDiff, Int.reduceLT, Int.reduceNeg, Int.reduceLE, appendP, appendAt, letGo, setLoc, locVal, Int.reduceToNat, boxCells, und, TG, SE, SC, TGf, SPf, List.getElem?_concat_length, List.getElem?_cons_zero, List.getElem?_cons_succ, List.take_nil, unP, htu, htr, hky, hev1, htg, hsp, hrl, loadR, loadP, lay, List.take_succ_cons, List.take_zero, List.drop_nil, List.filter_nil, List.cons_append, Int.reduceBEq, Int.reduceBNe, Int.reduceGT, Int.reduceGE, Bool.not_true, Bool.not_false, e1, es, el, ei, hi, hi0', hx, l1, l2, l3, hmd, c0, c1, c2, c3]
      exact ⟨_, _, .inr ⟨rfl, rfl, by simp (maxSteps := 5000000) only [SA, SB, SD, R, guardAt, binP, intP, indexAddrP, elemsOf, readCells, lenP, lenAt, resultsP, resultP, oneOr, reduceCtorEq, reduceIte, Nat.reduceEqDiff, Nat.reduceAdd, Nat.zero_add, Nat.reduceMul, Nat.reduceLT, Nat.reduceLeDiff, Int.reduceLT, Int.reduceNeg, Int.reduceLE, appendP, appendAt, letGo, setLoc, locVal, Int.reduceToNat, boxCells, und]⟩⟩
    rw [show plSp ⟨xk, (xd, xcl, xat), xnm, xt⟩ = true by unfold plSp; simp only [decide_eq_true_eq]; exact ⟨by omega, by omega, by omega, by omega⟩, Bool.true_and]
    apply PPl.app
    obtain ⟨ev, eo, so, co, ⟨hev, hco⟩, R⟩ := RULES CC; rw [← hev]
    rw [← hev] at key
    rw [← hco] at hmd
    simp only [fpart, part', Tryd.f4, Option.getD]
    simp (maxSteps := 5000000) only [SA, SB, SD, R, guardAt, binP, intP, indexAddrP, elemsOf, readCells, lenP, lenAt, resultsP, resultP, oneOr, reduceCtorEq, reduceIte, Nat.reduceEqDiff, Nat.reduceAdd, Nat.zero_add, Nat.reduceMul, Nat.reduceLT, Nat.reduceLeDiff, Int.reduceLT, Int.reduceNeg, Int.reduceLE, appendP, appendAt, letGo, setLoc, locVal, Int.reduceToNat, boxCells, und, TG, SE, SC, TGf, SPf, List.getElem?_concat_length, List.getElem?_cons_zero, List.getElem?_cons_succ, List.take_nil, unP, htu, htr, hky, hev1, htg, hsp, hrl, loadR, loadP, lay, List.take_succ_cons, List.take_zero, List.drop_nil, List.filter_nil, List.cons_append, Int.reduceBEq, Int.reduceBNe, Int.reduceGT, Int.reduceGE, Bool.not_true, Bool.not_false, e1, es, el, ei, hi, hi0', hx, hw1, l1, l2, l3, hmd, c0, c1, c2, c3]
    refine key _ _ ?_ ?_ ?_ ?_
    all_goals simp (maxSteps := 5000000) only [SA, SB, SD, R, guardAt, binP, intP, indexAddrP, elemsOf, readCells, lenP, lenAt, resultsP, resultP, oneOr, reduceCtorEq, reduceIte, Nat.reduceEqDiff, Nat.reduceAdd, Nat.zero_add, Nat.reduceMul, Nat.reduceLT, Nat.reduceLeDiff, Int.reduceLT, Int.reduceNeg, Int.reduceLE, appendP, appendAt, letGo, setLoc, locVal, Int.reduceToNat, boxCells, und, e1, es, el, ei]
theorem call_plain (r : Rl) : ∃ bx, callL CC 4 [rlV r] [] = some (.ret (.bool (plRl r)), bx) := by
  obtain ⟨nm, pr, on, ife, dos⟩ := r
  have l1 := len_str nm
  have lon : (on.map tgV).length = on.length := List.length_map _
  have ldo : (dos.map spV).length = dos.length := List.length_map _
  have hmd := op_modest ife 220 30 (by decide) (by decide)
  obtain ⟨res, hres⟩ : ∃ res, res = mdT ife 220 30 := ⟨_, rfl⟩
  rw [← hres] at hmd
  unfold plRl rlV trC
  simp only
  rw [← hres]
  obtain ⟨zk, zn, zm, znm, zv, zkey, zkids⟩ := ife
  unfold trV at hmd ⊢
  simp only [SA, List.cons_append, List.nil_append] at hmd ⊢
  generalize trVs zkids = zs at *
  obtain ⟨tu, htu⟩ := VLs
  obtain ⟨tr, htr⟩ := TRs
  obtain ⟨tk, hky⟩ := KYs
  obtain ⟨te, hev1⟩ := EVs
  obtain ⟨tg, htg⟩ := TG_s
  obtain ⟨tp, hsp⟩ := SPs
  obtain ⟨tl, hrl⟩ := RLs
  by_cases c0 : (nm.length : Int) > 100
  · rw [decide_eq_false (by omega), Bool.false_and, Bool.false_and]
    rw [callL_enter (fn := Tryd.f4) (c := Tryd.f4.body.getD .skip) rfl rfl fat_L30_plain rfl ok_L30_plain (Nat.le_of_ble_eq_true rfl)]
    generalize on.map tgV = xs at *
    generalize dos.map spV = ys at *
    obtain ⟨ev, eo, so, co, ⟨hev, hco⟩, R⟩ := RULES CC; rw [← hev]
    skip
    simp only [fpart, part', Tryd.f4, Option.getD]
    simp (maxSteps := 5000000) only [SA, SB, SD, R, guardAt, binP, intP, indexAddrP, elemsOf, readCells, lenP, lenAt, resultsP, resultP, oneOr, reduceCtorEq, reduceIte, Nat.reduceEqDiff, Nat.reduceAdd, Nat.zero_add, Nat.reduceMul, Nat.reduceLT, Nat.reduceLeDiff, Int.reduceLT, Int.reduceNeg, Int.reduceLE, appendP, appendAt, letGo, setLoc, locVal, Int.reduceToNat, boxCells, und, TG, SE, SC, TGf, SPf, List.getElem?_concat_length, List.getElem?_cons_zero, List.getElem?_cons_succ, List.take_nil, unP, htu, htr, hky, hev1, htg, hsp, hrl, loadR, loadP, lay, List.take_succ_cons, List.take_zero, List.drop_nil, List.filter_nil, List.cons_append, Int.reduceBEq, Int.reduceBNe, Int.reduceGT, Int.reduceGE, Bool.not_true, Bool.not_false, l1, lon, ldo, hmd, c0]
    exact ⟨_, rfl⟩
  by_cases c1 : (on.length : Int) > 12
  · rw [decide_eq_false (by omega), Bool.false_and, Bool.false_and]
    rw [callL_enter (fn := Tryd.f4) (c := Tryd.f4.body.getD .skip) rfl rfl fat_L30_plain rfl ok_L30_plain (Nat.le_of_ble_eq_true rfl)]
    generalize on.map tgV = xs at *
    generalize dos.map spV = ys at *
    obtain ⟨ev, eo, so, co, ⟨hev, hco⟩, R⟩ := RULES CC; rw [← hev]
    skip
    simp only [fpart, part', Tryd.f4, Option.getD]
    simp (maxSteps := 5000000) only [SA, SB, SD, R, guardAt, binP, intP, indexAddrP, elemsOf, readCells, lenP, lenAt, resultsP, resultP, oneOr, reduceCtorEq, reduceIte, Nat.reduceEqDiff, Nat.reduceAdd, Nat.zero_add, Nat.reduceMul, Nat.reduceLT, Nat.reduceLeDiff, Int.reduceLT, Int.reduceNeg, Int.reduceLE, appendP, appendAt, letGo, setLoc, locVal, Int.reduceToNat, boxCells, und, TG, SE, SC, TGf, SPf, List.getElem?_concat_length, List.getElem?_cons_zero, List.getElem?_cons_succ, List.take_nil, unP, htu, htr, hky, hev1, htg, hsp, hrl, loadR, loadP, lay, List.take_succ_cons, List.take_zero, List.drop_nil, List.filter_nil, List.cons_append, Int.reduceBEq, Int.reduceBNe, Int.reduceGT, Int.reduceGE, Bool.not_true, Bool.not_false, l1, lon, ldo, hmd, c0, c1]
    exact ⟨_, rfl⟩
  by_cases c2 : (dos.length : Int) > 12
  · rw [decide_eq_false (by omega), Bool.false_and, Bool.false_and]
    rw [callL_enter (fn := Tryd.f4) (c := Tryd.f4.body.getD .skip) rfl rfl fat_L30_plain rfl ok_L30_plain (Nat.le_of_ble_eq_true rfl)]
    generalize on.map tgV = xs at *
    generalize dos.map spV = ys at *
    obtain ⟨ev, eo, so, co, ⟨hev, hco⟩, R⟩ := RULES CC; rw [← hev]
    skip
    simp only [fpart, part', Tryd.f4, Option.getD]
    simp (maxSteps := 5000000) only [SA, SB, SD, R, guardAt, binP, intP, indexAddrP, elemsOf, readCells, lenP, lenAt, resultsP, resultP, oneOr, reduceCtorEq, reduceIte, Nat.reduceEqDiff, Nat.reduceAdd, Nat.zero_add, Nat.reduceMul, Nat.reduceLT, Nat.reduceLeDiff, Int.reduceLT, Int.reduceNeg, Int.reduceLE, appendP, appendAt, letGo, setLoc, locVal, Int.reduceToNat, boxCells, und, TG, SE, SC, TGf, SPf, List.getElem?_concat_length, List.getElem?_cons_zero, List.getElem?_cons_succ, List.take_nil, unP, htu, htr, hky, hev1, htg, hsp, hrl, loadR, loadP, lay, List.take_succ_cons, List.take_zero, List.drop_nil, List.filter_nil, List.cons_append, Int.reduceBEq, Int.reduceBNe, Int.reduceGT, Int.reduceGE, Bool.not_true, Bool.not_false, l1, lon, ldo, hmd, c0, c1, c2]
    exact ⟨_, rfl⟩
  by_cases c3 : res < 0
  · rw [decide_eq_false (by omega), Bool.false_and, Bool.false_and]
    rw [callL_enter (fn := Tryd.f4) (c := Tryd.f4.body.getD .skip) rfl rfl fat_L30_plain rfl ok_L30_plain (Nat.le_of_ble_eq_true rfl)]
    generalize on.map tgV = xs at *
    generalize dos.map spV = ys at *
    obtain ⟨ev, eo, so, co, ⟨hev, hco⟩, R⟩ := RULES CC; rw [← hev]
    rw [← hco] at hmd
    simp only [fpart, part', Tryd.f4, Option.getD]
    simp (maxSteps := 5000000) only [SA, SB, SD, R, guardAt, binP, intP, indexAddrP, elemsOf, readCells, lenP, lenAt, resultsP, resultP, oneOr, reduceCtorEq, reduceIte, Nat.reduceEqDiff, Nat.reduceAdd, Nat.zero_add, Nat.reduceMul, Nat.reduceLT, Nat.reduceLeDiff, Int.reduceLT, Int.reduceNeg, Int.reduceLE, appendP, appendAt, letGo, setLoc, locVal, Int.reduceToNat, boxCells, und, TG, SE, SC, TGf, SPf, List.getElem?_concat_length, List.getElem?_cons_zero, List.getElem?_cons_succ, List.take_nil, unP, htu, htr, hky, hev1, htg, hsp, hrl, loadR, loadP, lay, List.take_succ_cons, List.take_zero, List.drop_nil, List.filter_nil, List.cons_append, Int.reduceBEq, Int.reduceBNe, Int.reduceGT, Int.reduceGE, Bool.not_true, Bool.not_false, l1, lon, ldo, hmd, c0, c1, c2, c3]
    exact ⟨_, rfl⟩
  have hon := fun e bx => loop_on _ rfl on (by omega) on.length 0 e bx (by omega)
  have hdo := fun e bx => loop_do _ rfl dos (by omega) dos.length 0 e bx (by omega)
  rw [List.drop_zero] at hon hdo
  rw [decide_eq_true (by omega), Bool.true_and]
  generalize on.all plTg = v1 at *
  generalize dos.all plSp = v2 at *
  generalize on.map tgV = xs at *
  generalize dos.map spV = ys at *
  rw [callL_enter (fn := Tryd.f4) (c := Tryd.f4.body.getD .skip) rfl rfl fat_L30_plain rfl ok_L30_plain (Nat.le_of_ble_eq_true rfl)]
  obtain ⟨ev, eo, so, co, ⟨hev, hco⟩, R⟩ := RULES CC; rw [← hev]
  rw [← hev] at hon hdo
  rw [← hco] at hmd
  simp only [fpart, part', Tryd.f4, Option.getD] at hon hdo ⊢
  simp (maxSteps := 5000000) only [SA, SB, SD, R, guardAt, binP, intP, indexAddrP, elemsOf, readCells, lenP, lenAt, resultsP, resultP, oneOr, reduceCtorEq, reduceIte, Nat.reduceEqDiff, Nat.reduceAdd, Nat.zero_add, Nat.reduceMul, Nat.reduceLT, Nat.reduceLeDiff, Int.reduceLT, Int.reduceNeg, Int.reduceLE, appendP, appendAt, letGo, setLoc, locVal, Int.reduceToNat, boxCells, und, TG, SE, SC, TGf, SPf, List.getElem?_concat_length, List.getElem?_cons_zero, List.getElem?_cons_succ, List.take_nil, unP, htu, htr, hky, hev1, htg, hsp, hrl, loadR, loadP, lay, List.take_succ_cons, List.take_zero, List.drop_nil, List.filter_nil, List.cons_append, Int.reduceBEq, Int.reduceBNe, Int.reduceGT, Int.reduceGE, Bool.not_true, Bool.not_false, l1, lon, ldo, hmd, c0, c1, c2, c3]
  generalize hE : ev (Code.loop _) _ = z
  have hP : PPl 0 [.cells 32 [.str nm, .int .i64 pr, .sl xs, .int .i64 zk, .int .i64 zn, .int .i64 zm, .str znm, .int .i64 zv.1, .int .i64 zv.2.1, .str zv.2.2, .int .i64 zkey.1, .str zkey.2.1, .str zkey.2.2, .sl zs, .sl ys]] v1 z := by
    rw [← hE]
    refine hon _ _ ?_ ?_ ?_ ?_
    all_goals first | (simp (maxSteps := 5000000) only [SA, SB, SD, R, guardAt, binP, intP, indexAddrP, elemsOf, readCells, lenP, lenAt, resultsP, resultP, oneOr, reduceCtorEq, reduceIte, Nat.reduceEqDiff, Nat.reduceAdd, Nat.zero_add, Nat.reduceMul, Nat.reduceLT, Nat.reduceLeDiff, Int.reduceLT, Int.reduceNeg, Int.reduceLE, appendP, appendAt, letGo, setLoc, locVal, Int.reduceToNat, boxCells, und]; done) | (simp (maxSteps := 5000000) only [SA, SB, SD, R, guardAt, binP, intP, indexAddrP, elemsOf, readCells, lenP, lenAt, resultsP, resultP, oneOr, reduceCtorEq, reduceIte, Nat.reduceEqDiff, Nat.reduceAdd, Nat.zero_add, Nat.reduceMul, Nat.reduceLT, Nat.reduceLeDiff, Int.reduceLT, Int.reduceNeg, Int.reduceLE, appendP, appendAt, letGo, setLoc, locVal, Int.reduceToNat, boxCells, und]; rfl)
  obtain ⟨e', ex, ⟨hv, he, g1⟩ | ⟨hv, he, g2⟩⟩ := hP
  · subst he
    subst hv
    simp (maxSteps := 5000000) only [SA, SB, SD, R, guardAt, binP, intP, indexAddrP, elemsOf, readCells, lenP, lenAt, resultsP, resultP, oneOr, reduceCtorEq, reduceIte, Nat.reduceEqDiff, Nat.reduceAdd, Nat.zero_add, Nat.reduceMul, Nat.reduceLT, Nat.reduceLeDiff, Int.reduceLT, Int.reduceNeg, Int.reduceLE, appendP, appendAt, letGo, setLoc, locVal, Int.reduceToNat, boxCells, und, TG, SE, SC, TGf, SPf, List.getElem?_concat_length, List.getElem?_cons_zero, List.getElem?_cons_succ, List.take_nil, unP, htu, htr, hky, hev1, htg, hsp, hrl, loadR, loadP, lay, List.take_succ_cons, List.take_zero, List.drop_nil, List.filter_nil, List.cons_append, Int.reduceBEq, Int.reduceBNe, Int.reduceGT, Int.reduceGE, Bool.not_true, Bool.not_false, g1, ldo, List.nil_append]
    generalize hE2 : ev (Code.loop _) _ = z2
    have hP2 : PPl 2 (.cells 32 [.str nm, .int .i64 pr, .sl xs, .int .i64 zk, .int .i64 zn, .int .i64 zm, .str znm, .int .i64 zv.1, .int .i64 zv.2.1, .str zv.2.2, .int .i64 zkey.1, .str zkey.2.1, .str zkey.2.2, .sl zs, .sl ys] :: ex) v2 z2 := by
      rw [← hE2]
      refine hdo _ _ ?_ ?_ ?_ ?_
      all_goals first | (simp (maxSteps := 5000000) only [SA, SB, SD, R, guardAt, binP, intP, indexAddrP, elemsOf, readCells, lenP, lenAt, resultsP, resultP, oneOr, reduceCtorEq, reduceIte, Nat.reduceEqDiff, Nat.reduceAdd, Nat.zero_add, Nat.reduceMul, Nat.reduceLT, Nat.reduceLeDiff, Int.reduceLT, Int.reduceNeg, Int.reduceLE, appendP, appendAt, letGo, setLoc, locVal, Int.reduceToNat, boxCells, und, g1]; done) | (simp (maxSteps := 5000000) only [SA, SB, SD, R, guardAt, binP, intP, indexAddrP, elemsOf, readCells, lenP, lenAt, resultsP, resultP, oneOr, reduceCtorEq, reduceIte, Nat.reduceEqDiff, Nat.reduceAdd, Nat.zero_add, Nat.reduceMul, Nat.reduceLT, Nat.reduceLeDiff, Int.reduceLT, Int.reduceNeg, Int.reduceLE, appendP, appendAt, letGo, setLoc, locVal, Int.reduceToNat, boxCells, und, g1]; rfl)
    obtain ⟨e2, ex2, ⟨hv2, he2, g3⟩ | ⟨hv2, he2, g4⟩⟩ := hP2
    · subst he2
      subst hv2
      simp (maxSteps := 5000000) only [SA, SB, SD, R, guardAt, binP, intP, indexAddrP, elemsOf, readCells, lenP, lenAt, resultsP, resultP, oneOr, reduceCtorEq, reduceIte, Nat.reduceEqDiff, Nat.reduceAdd, Nat.zero_add, Nat.reduceMul, Nat.reduceLT, Nat.reduceLeDiff, Int.reduceLT, Int.reduceNeg, Int.reduceLE, appendP, appendAt, letGo, setLoc, locVal, Int.reduceToNat, boxCells, und, TG, SE]
      exact ⟨_, rfl⟩
    · subst he2
      subst hv2
      simp (maxSteps := 5000000) only [SA, SB, SD, R, guardAt, binP, intP, indexAddrP, elemsOf, readCells, lenP, lenAt, resultsP, resultP, oneOr, reduceCtorEq, reduceIte, Nat.reduceEqDiff, Nat.reduceAdd, Nat.zero_add, Nat.reduceMul, Nat.reduceLT, Nat.reduceLeDiff, Int.reduceLT, Int.reduceNeg, Int.reduceLE, appendP, appendAt, letGo, setLoc, locVal, Int.reduceToNat, boxCells, und, TG, SE, g4]
      exact ⟨_, rfl⟩
  · subst he
    subst hv
    simp (maxSteps := 5000000) only [SA, SB, SD, R, guardAt, binP, intP, indexAddrP, elemsOf, readCells, lenP, lenAt, resultsP, resultP, oneOr, reduceCtorEq, reduceIte, Nat.reduceEqDiff, Nat.reduceAdd, Nat.zero_add, Nat.reduceMul, Nat.reduceLT, Nat.reduceLeDiff, Int.reduceLT, Int.reduceNeg, Int.reduceLE, appendP, appendAt, letGo, setLoc, locVal, Int.reduceToNat, boxCells, und, TG, SE, g2]
    exact ⟨_, rfl⟩
set_option maxHeartbeats 4000000
theorem ok_print_device : fnOK CC Tryd.f49 (Tryd.f49.body.getD .skip) = true := by kernel_rfl
theorem fat_print_device : CC.P.funcs[49]? = some Tryd.f49 := by kernel_rfl
theorem ok_print_named : fnOK CC Tryd.f31 (Tryd.f31.body.getD .skip) = true := by kernel_rfl
theorem fat_print_named : CC.P.funcs[31]? = some Tryd.f31 := by kernel_rfl
theorem tgV_pure (t : Tg) : (tgV t).pure = true := by
  unfold tgV
  simp only [PV.pure, pureL, Bool.and_self]
theorem tgs_pure : ∀ l : List Tg, pureL (l.map tgV) = true
  | [] => rfl
  | t :: r => by rw [List.map_cons, pureL_cons, tgV_pure, tgs_pure r]; rfl
theorem pureL_app (a b : List PV) : pureL (a ++ b) = (pureL a && pureL b) := by
  induction a with
  | nil => rfl
  | cons x r ih => rw [List.cons_append, pureL_cons, pureL_cons, ih, Bool.and_assoc]
theorem trC_pure (t : Tr) : pureL (trC t) = true := by
  have h := trV_pure t
  rw [trV_agg] at h
  unfold PV.pure at h
  exact h
theorem spV_pure (s : Sp) : (spV s).pure = true := by
  unfold spV PV.pure
  rw [pureL_app, trC_pure]
  rfl
theorem sps_pure : ∀ l : List Sp, pureL (l.map spV) = true
  | [] => rfl
  | t :: r => by rw [List.map_cons, pureL_cons, spV_pure, sps_pure r]; rfl
theorem rlV_pure (r : Rl) : (rlV r).pure = true := by
  unfold rlV PV.pure
  rw [pureL_app, pureL_app, trC_pure]
  simp only [pureL_cons, pure_sl, pure_str, pure_int, pureL_nil, tgs_pure, sps_pure, Bool.and_self]
theorem op_plain (r : Rl) (bx) : callOp CC (callL CC) 4 [rlV r] bx = some (.ret (.bool (plRl r)), bx) := by
  obtain ⟨b, h⟩ := call_plain r
  exact callOp_of rfl (by simp only [pureL_cons, rlV_pure, pureL_nil, Bool.and_self]) h rfl
def dvB (n : Int) : Bool := decide (1 ≤ n ∧ n ≤ 250)
theorem buildEv0 : buildP CC 43 [] = some (.agg [.int .i64 0, .str [], .str []]) := by kernel_rfl
theorem eqgE : CC.P.eqGuardType CC.P.depth 43 = false := by kernel_rfl
theorem call_print_device (n : Int) : callL CC 49 [.int .i64 n] [] = some (.ret (.bool (dvB n)), []) := by
  rw [callL_enter (fn := Tryd.f49) (c := Tryd.f49.body.getD .skip) rfl rfl fat_print_device rfl ok_print_device (Nat.le_of_ble_eq_true rfl)]
  obtain ⟨tu, htu⟩ := VLs
  obtain ⟨tr, htr⟩ := TRs
  obtain ⟨tk, hky⟩ := KYs
  obtain ⟨te, hev1⟩ := EVs
  obtain ⟨tg, htg⟩ := TG_s
  obtain ⟨tp, hsp⟩ := SPs
  obtain ⟨tl, hrl⟩ := RLs
  by_cases c1 : n ≥ 1
  · by_cases c2 : n ≤ 250
    · rw [show dvB n = true by unfold dvB; simp only [decide_eq_true_eq]; omega]
      obtain ⟨ev, eo, so, co, ⟨hev, hco⟩, R⟩ := RULES CC; rw [← hev]
      simp only [fpart, part', Tryd.f49, Option.getD]
      simp (maxSteps := 5000000) only [SA, SB, SD, R, guardAt, binP, intP, indexAddrP, elemsOf, readCells, lenP, lenAt, resultsP, resultP, oneOr, reduceCtorEq, reduceIte, Nat.reduceEqDiff, Nat.reduceAdd, Nat.zero_add, Nat.reduceMul, Nat.reduceLT, Nat.reduceLeDiff, Int.reduceLT, Int.reduceNeg, Int.reduceLE, appendP, appendAt, letGo, setLoc, locVal, Int.reduceToNat, boxCells, und, TG, SE, SC, List.getElem?_cons_zero, List.getElem?_cons_succ, unP, htu, htr, hky, hev1, htg, hsp, hrl, eqgK, eqgE, buildKy0, buildEv0, loadR, loadP, lay, List.take_succ_cons, List.take_zero, List.drop_nil, List.filter_nil, List.cons_append, Int.reduceBEq, Int.reduceBNe, Int.reduceGT, Int.reduceGE, Bool.not_true, Bool.not_false, c1, c2]
    · rw [show dvB n = false by unfold dvB; simp only [decide_eq_false_iff_not]; omega]
      obtain ⟨ev, eo, so, co, ⟨hev, hco⟩, R⟩ := RULES CC; rw [← hev]
      simp only [fpart, part', Tryd.f49, Option.getD]
      simp (maxSteps := 5000000) only [SA, SB, SD, R, guardAt, binP, intP, indexAddrP, elemsOf, readCells, lenP, lenAt, resultsP, resultP, oneOr, reduceCtorEq, reduceIte, Nat.reduceEqDiff, Nat.reduceAdd, Nat.zero_add, Nat.reduceMul, Nat.reduceLT, Nat.reduceLeDiff, Int.reduceLT, Int.reduceNeg, Int.reduceLE, appendP, appendAt, letGo, setLoc, locVal, Int.reduceToNat, boxCells, und, TG, SE, SC, List.getElem?_cons_zero, List.getElem?_cons_succ, unP, htu, htr, hky, hev1, htg, hsp, hrl, eqgK, eqgE, buildKy0, buildEv0, loadR, loadP, lay, List.take_succ_cons, List.take_zero, List.drop_nil, List.filter_nil, List.cons_append, Int.reduceBEq, Int.reduceBNe, Int.reduceGT, Int.reduceGE, Bool.not_true, Bool.not_false, c1, c2]
  · rw [show dvB n = false by unfold dvB; simp only [decide_eq_false_iff_not]; omega]
    obtain ⟨ev, eo, so, co, ⟨hev, hco⟩, R⟩ := RULES CC; rw [← hev]
    simp only [fpart, part', Tryd.f49, Option.getD]
    simp (maxSteps := 5000000) only [SA, SB, SD, R, guardAt, binP, intP, indexAddrP, elemsOf, readCells, lenP, lenAt, resultsP, resultP, oneOr, reduceCtorEq, reduceIte, Nat.reduceEqDiff, Nat.reduceAdd, Nat.zero_add, Nat.reduceMul, Nat.reduceLT, Nat.reduceLeDiff, Int.reduceLT, Int.reduceNeg, Int.reduceLE, appendP, appendAt, letGo, setLoc, locVal, Int.reduceToNat, boxCells, und, TG, SE, SC, List.getElem?_cons_zero, List.getElem?_cons_succ, unP, htu, htr, hky, hev1, htg, hsp, hrl, eqgK, eqgE, buildKy0, buildEv0, loadR, loadP, lay, List.take_succ_cons, List.take_zero, List.drop_nil, List.filter_nil, List.cons_append, Int.reduceBEq, Int.reduceBNe, Int.reduceGT, Int.reduceGE, Bool.not_true, Bool.not_false, c1]
theorem op_print_device (n : Int) (bx) : callOp CC (callL CC) 49 [.int .i64 n] bx = some (.ret (.bool (dvB n)), bx) := callOp_of rfl (by simp only [SA, Bool.and_true]) (call_print_device n) rfl
/-- what is said of a device and two names -/
def nmE (n : Int) (a b : List UInt8) : Int := if dvB n = false then 2 else if valB a && valB b then 0 else 10
theorem call_print_named (n : Int) (a b : List UInt8) (ha : a.length ≤ 1000) (hb : b.length ≤ 1000) : ∃ bx, callL CC 31 [.int .i64 n, .str a, .str b] [] = some (.ret (.int .i64 (nmE n a b)), bx) := by
  rw [callL_enter (fn := Tryd.f31) (c := Tryd.f31.body.getD .skip) rfl rfl fat_print_named rfl ok_print_named (Nat.le_of_ble_eq_true rfl)]
  have v1 := op_names_Valid a ha
  have v2 := op_names_Valid b hb
  obtain ⟨tu, htu⟩ := VLs
  obtain ⟨tr, htr⟩ := TRs
  obtain ⟨tk, hky⟩ := KYs
  obtain ⟨te, hev1⟩ := EVs
  obtain ⟨tg, htg⟩ := TG_s
  obtain ⟨tp, hsp⟩ := SPs
  obtain ⟨tl, hrl⟩ := RLs
  unfold nmE
  by_cases d1 : dvB n = false
  · rw [if_pos d1]
    obtain ⟨ev, eo, so, co, ⟨hev, hco⟩, R⟩ := RULES CC; rw [← hev]; have o_print_device := @op_print_device; rw [← hco] at o_print_device
    rw [← hco] at v1 v2
    simp only [fpart, part', Tryd.f31, Option.getD]
    simp (maxSteps := 5000000) only [SA, SB, SD, R, guardAt, binP, intP, indexAddrP, elemsOf, readCells, lenP, lenAt, resultsP, resultP, oneOr, reduceCtorEq, reduceIte, Nat.reduceEqDiff, Nat.reduceAdd, Nat.zero_add, Nat.reduceMul, Nat.reduceLT, Nat.reduceLeDiff, Int.reduceLT, Int.reduceNeg, Int.reduceLE, appendP, appendAt, letGo, setLoc, locVal, Int.reduceToNat, boxCells, und, TG, SE, SC, List.getElem?_cons_zero, List.getElem?_cons_succ, unP, htu, htr, hky, hev1, htg, hsp, hrl, eqgK, eqgE, buildKy0, buildEv0, loadR, loadP, lay, List.take_succ_cons, List.take_zero, List.drop_nil, List.filter_nil, List.cons_append, Int.reduceBEq, Int.reduceBNe, Int.reduceGT, Int.reduceGE, Bool.not_true, Bool.not_false, o_print_device, v1, v2, d1]
    exact ⟨_, rfl⟩
  have d1' : dvB n = true := by simpa using d1
  rw [if_neg d1]
  generalize valB a = p at *
  generalize valB b = q at *
  cases p with
  | false =>
    rw [if_neg (by simp)]
    obtain ⟨ev, eo, so, co, ⟨hev, hco⟩, R⟩ := RULES CC; rw [← hev]; have o_print_device := @op_print_device; rw [← hco] at o_print_device
    rw [← hco] at v1 v2
    simp only [fpart, part', Tryd.f31, Option.getD]
    simp (maxSteps := 5000000) only [SA, SB, SD, R, guardAt, binP, intP, indexAddrP, elemsOf, readCells, lenP, lenAt, resultsP, resultP, oneOr, reduceCtorEq, reduceIte, Nat.reduceEqDiff, Nat.reduceAdd, Nat.zero_add, Nat.reduceMul, Nat.reduceLT, Nat.reduceLeDiff, Int.reduceLT, Int.reduceNeg, Int.reduceLE, appendP, appendAt, letGo, setLoc, locVal, Int.reduceToNat, boxCells, und, TG, SE, SC, List.getElem?_cons_zero, List.getElem?_cons_succ, unP, htu, htr, hky, hev1, htg, hsp, hrl, eqgK, eqgE, buildKy0, buildEv0, loadR, loadP, lay, List.take_succ_cons, List.take_zero, List.drop_nil, List.filter_nil, List.cons_append, Int.reduceBEq, Int.reduceBNe, Int.reduceGT, Int.reduceGE, Bool.not_true, Bool.not_false, o_print_device, v1, v2, d1']
    exact ⟨_, rfl⟩
  | true =>
    cases q with
    | false =>
      rw [if_neg (by simp)]
      obtain ⟨ev, eo, so, co, ⟨hev, hco⟩, R⟩ := RULES CC; rw [← hev]; have o_print_device := @op_print_device; rw [← hco] at o_print_device
      rw [← hco] at v1 v2
      simp only [fpart, part', Tryd.f31, Option.getD]
      simp (maxSteps := 5000000) only [SA, SB, SD, R, guardAt, binP, intP, indexAddrP, elemsOf, readCells, lenP, lenAt, resultsP, resultP, oneOr, reduceCtorEq, reduceIte, Nat.reduceEqDiff, Nat.reduceAdd, Nat.zero_add, Nat.reduceMul, Nat.reduceLT, Nat.reduceLeDiff, Int.reduceLT, Int.reduceNeg, Int.reduceLE, appendP, appendAt, letGo, setLoc, locVal, Int.reduceToNat, boxCells, und, TG, SE, SC, List.getElem?_cons_zero, List.getElem?_cons_succ, unP, htu, htr, hky, hev1, htg, hsp, hrl, eqgK, eqgE, buildKy0, buildEv0, loadR, loadP, lay, List.take_succ_cons, List.take_zero, List.drop_nil, List.filter_nil, List.cons_append, Int.reduceBEq, Int.reduceBNe, Int.reduceGT, Int.reduceGE, Bool.not_true, Bool.not_false, o_print_device, v1, v2, d1']
      exact ⟨_, rfl⟩
    | true =>
      rw [if_pos (by simp)]
      obtain ⟨ev, eo, so, co, ⟨hev, hco⟩, R⟩ := RULES CC; rw [← hev]; have o_print_device := @op_print_device; rw [← hco] at o_print_device
      rw [← hco] at v1 v2
      simp only [fpart, part', Tryd.f31, Option.getD]
      simp (maxSteps := 5000000) only [SA, SB, SD, R, guardAt, binP, intP, indexAddrP, elemsOf, readCells, lenP, lenAt, resultsP, resultP, oneOr, reduceCtorEq, reduceIte, Nat.reduceEqDiff, Nat.reduceAdd, Nat.zero_add, Nat.reduceMul, Nat.reduceLT, Nat.reduceLeDiff, Int.reduceLT, Int.reduceNeg, Int.reduceLE, appendP, appendAt, letGo, setLoc, locVal, Int.reduceToNat, boxCells, und, TG, SE, SC, List.getElem?_cons_zero, List.getElem?_cons_succ, unP, htu, htr, hky, hev1, htg, hsp, hrl, eqgK, eqgE, buildKy0, buildEv0, loadR, loadP, lay, List.take_succ_cons, List.take_zero, List.drop_nil, List.filter_nil, List.cons_append, Int.reduceBEq, Int.reduceBNe, Int.reduceGT, Int.reduceGE, Bool.not_true, Bool.not_false, o_print_device, v1, v2, d1']
      exact ⟨_, rfl⟩
theorem op_print_named (n : Int) (a b : List UInt8) (ha : a.length ≤ 1000) (hb : b.length ≤ 1000) (bx) : callOp CC (callL CC) 31 [.int .i64 n, .str a, .str b] bx = some (.ret (.int .i64 (nmE n a b)), bx) := by
  obtain ⟨c, h⟩ := call_print_named n a b ha hb
  exact callOp_of rfl (by simp only [SA, Bool.and_true]) h rfl
/-- has a trigger a field that it does not use? (the fields that are not zero: Key, Event, Name, N, M) -/
def tsB (k : Int) (b1 b2 b3 b4 b5 : Bool) : Bool := (b1 && !(k == 1)) || (b2 && !(k == 2)) || (b3 && !(k == 4)) || (b4 && !(k == 3 || k == 6)) || (b5 && !(k == 3))
def tsT (t : Tg) : Bool := tsB t.k (!(eqKy t.key (0, [], []))) (!(eqKy t.ev (0, [], []))) (!(t.nm == [])) (t.n != 0) (t.m != 0)
set_option maxHeartbeats 4000000
/-- what is said of a trigger -/
def tgE (t : Tg) : Int := if t.k < 1 ∨ 6 < t.k then 7 else if tsT t = true then 1 else if t.k = 1 then nmE t.key.1 t.key.2.1 t.key.2.2 else if t.k = 2 then nmE t.ev.1 t.ev.2.1 t.ev.2.2 else
  if t.k = 3 then (if 0 ≤ t.n ∧ t.n < 1440 ∧ 1 ≤ t.m ∧ t.m ≤ 127 then 0 else 2) else if t.k = 4 then (if t.nm = [] ∨ valB t.nm = true then 0 else 10) else if t.k = 6 then (if 0 ≤ t.n ∧ t.n ≤ 1099511627776 then 0 else 2) else 0
theorem plTg_len {t : Tg} (h : plTg t = true) : t.nm.length ≤ 100 ∧ t.key.2.1.length ≤ 100 ∧ t.key.2.2.length ≤ 100 ∧ t.ev.2.1.length ≤ 100 ∧ t.ev.2.2.length ≤ 100 := of_decide_eq_true h
set_option maxHeartbeats 4000000
theorem ok_print_step : fnOK CC Tryd.f20 (Tryd.f20.body.getD .skip) = true := by kernel_rfl
theorem fat_print_step : CC.P.funcs[20]? = some Tryd.f20 := by kernel_rfl
/-- what is said of a step -/
def spE (s : Sp) : Int :=
  if s.k = 1 then (if s.nm ≠ [] then 1 else if nmE s.key.1 s.key.2.1 s.key.2.2 ≠ 0 then nmE s.key.1 s.key.2.1 s.key.2.2 else ckT s.ex)
  else if s.k = 2 then (if s.key.2.2 ≠ [] then 1 else if nmE s.key.1 s.key.2.1 s.nm ≠ 0 then nmE s.key.1 s.key.2.1 s.nm else if nnB s.ex = true then 0 else ckT s.ex)
  else if s.k = 3 ∨ s.k = 4 ∨ s.k = 5 then (if eqKy s.key (0, [], []) = false ∨ nnB s.ex = false then 1 else if s.k = 5 then (if 60 < s.nm.length then 3 else 0) else if valB s.nm = true then 0 else 10)
  else 7
theorem plSp_len {s : Sp} (h : plSp s = true) : s.nm.length ≤ 100 ∧ s.key.2.1.length ≤ 100 ∧ s.key.2.2.length ≤ 100 ∧ 0 ≤ mdT s.ex 220 30 := of_decide_eq_true h
theorem call_print_step (s : Sp) (hp : plSp s = true) : ∃ bx, callL CC 20 [spV s] [] = some (.ret (.int .i64 (spE s)), bx) := by
  have hl := plSp_len hp
  unfold spE
  obtain ⟨k, key, nm, ex⟩ := s
  obtain ⟨d, c, a⟩ := key
  obtain ⟨l1, l2, l3, l4⟩ := hl
  simp only at l1 l2 l3 l4 ⊢
  have onn := op_print_none ex
  have ock := op_expr_Check ex (sh_md ex 220 30 l4)
  have on1 := op_print_named d c a (by omega) (by omega)
  have on2 := op_print_named d c nm (by omega) (by omega)
  have ova := op_names_Valid nm (by omega)
  have hlen := len_str nm
  have hsn : strP .neq nm [] = some (.bool (!(nm == []))) := rfl
  have hsa : strP .neq a [] = some (.bool (!(a == []))) := rfl
  have heq : eqP CC 100 26 (.agg [.int .i64 d, .str c, .str a]) (.agg [.int .i64 0, .str [], .str []]) = some (eqKy (d, c, a) (0, [], [])) := by rw [eqKP]; rfl
  generalize eqKy (d, c, a) (0, [], []) = kz at *
  generalize nnB ex = nn at *
  generalize ckT ex = ck at *
  generalize nmE d c a = e1 at *
  generalize nmE d c nm = e2 at *
  generalize valB nm = va at *
  unfold spV trC
  obtain ⟨zk, zn, zm, znm, zv, zkey, zkids⟩ := ex
  unfold trV at onn ock ⊢
  generalize trVs zkids = zs at *
  simp only [SA, List.cons_append, List.nil_append] at onn ock ⊢
  rw [callL_enter (fn := Tryd.f20) (c := Tryd.f20.body.getD .skip) rfl rfl fat_print_step rfl ok_print_step (Nat.le_of_ble_eq_true rfl)]
  obtain ⟨tu, htu⟩ := VLs
  obtain ⟨tr, htr⟩ := TRs
  obtain ⟨tk, hky⟩ := KYs
  obtain ⟨te, hev1⟩ := EVs
  obtain ⟨tg, htg⟩ := TG_s
  obtain ⟨tp, hsp⟩ := SPs
  obtain ⟨tl, hrl⟩ := RLs
  by_cases k1 : k = 1
  · subst k1
    rw [if_pos rfl]
    by_cases z1 : nm = []
    · have hb : (nm == []) = true := by rw [z1]; rfl
      rw [hb] at hsn
      rw [if_neg (fun h => h z1)]
      by_cases z2 : e1 = 0
      · subst z2
        rw [if_neg (fun h => h rfl)]
        obtain ⟨ev, eo, so, co, ⟨hev, hco⟩, R⟩ := RULES CC; rw [← hev]
        rw [← hco] at onn ock on1 on2 ova
        simp only [fpart, part', Tryd.f20, Option.getD]
        simp (maxSteps := 5000000) only [SA, SB, SD, R, guardAt, binP, intP, indexAddrP, elemsOf, readCells, lenP, lenAt, resultsP, resultP, oneOr, reduceCtorEq, reduceIte, Nat.reduceEqDiff, Nat.reduceAdd, Nat.zero_add, Nat.reduceMul, Nat.reduceLT, Nat.reduceLeDiff, Int.reduceLT, Int.reduceNeg, Int.reduceLE, appendP, appendAt, letGo, setLoc, locVal, Int.reduceToNat, boxCells, und, TG, SE, SC, List.getElem?_cons_zero, List.getElem?_cons_succ, eqgK, buildKy0, unP, htu, htr, hky, hev1, htg, hsp, hrl, loadR, loadP, lay, List.take_succ_cons, List.take_zero, List.drop_nil, List.filter_nil, List.cons_append, Int.reduceBEq, Int.reduceBNe, Int.reduceGT, Int.reduceLT, Int.reduceGE, Bool.not_true, Bool.not_false, onn, ock, on1, on2, ova, hlen, heq, hsn]
        exact ⟨_, rfl⟩
      · have z2p : (e1 != 0) = true := by simpa using z2
        rw [if_pos z2]
        obtain ⟨ev, eo, so, co, ⟨hev, hco⟩, R⟩ := RULES CC; rw [← hev]
        rw [← hco] at onn ock on1 on2 ova
        simp only [fpart, part', Tryd.f20, Option.getD]
        simp (maxSteps := 5000000) only [SA, SB, SD, R, guardAt, binP, intP, indexAddrP, elemsOf, readCells, lenP, lenAt, resultsP, resultP, oneOr, reduceCtorEq, reduceIte, Nat.reduceEqDiff, Nat.reduceAdd, Nat.zero_add, Nat.reduceMul, Nat.reduceLT, Nat.reduceLeDiff, Int.reduceLT, Int.reduceNeg, Int.reduceLE, appendP, appendAt, letGo, setLoc, locVal, Int.reduceToNat, boxCells, und, TG, SE, SC, List.getElem?_cons_zero, List.getElem?_cons_succ, eqgK, buildKy0, unP, htu, htr, hky, hev1, htg, hsp, hrl, loadR, loadP, lay, List.take_succ_cons, List.take_zero, List.drop_nil, List.filter_nil, List.cons_append, Int.reduceBEq, Int.reduceBNe, Int.reduceGT, Int.reduceLT, Int.reduceGE, Bool.not_true, Bool.not_false, onn, ock, on1, on2, ova, hlen, heq, hsn, z2p]
        exact ⟨_, rfl⟩
    · have hb : (nm == []) = false := by simpa using z1
      rw [hb] at hsn
      rw [if_pos z1]
      obtain ⟨ev, eo, so, co, ⟨hev, hco⟩, R⟩ := RULES CC; rw [← hev]
      rw [← hco] at onn ock on1 on2 ova
      simp only [fpart, part', Tryd.f20, Option.getD]
      simp (maxSteps := 5000000) only [SA, SB, SD, R, guardAt, binP, intP, indexAddrP, elemsOf, readCells, lenP, lenAt, resultsP, resultP, oneOr, reduceCtorEq, reduceIte, Nat.reduceEqDiff, Nat.reduceAdd, Nat.zero_add, Nat.reduceMul, Nat.reduceLT, Nat.reduceLeDiff, Int.reduceLT, Int.reduceNeg, Int.reduceLE, appendP, appendAt, letGo, setLoc, locVal, Int.reduceToNat, boxCells, und, TG, SE, SC, List.getElem?_cons_zero, List.getElem?_cons_succ, eqgK, buildKy0, unP, htu, htr, hky, hev1, htg, hsp, hrl, loadR, loadP, lay, List.take_succ_cons, List.take_zero, List.drop_nil, List.filter_nil, List.cons_append, Int.reduceBEq, Int.reduceBNe, Int.reduceGT, Int.reduceLT, Int.reduceGE, Bool.not_true, Bool.not_false, onn, ock, on1, on2, ova, hlen, heq, hsn]
      exact ⟨_, rfl⟩
  rw [if_neg k1]
  have k1p : (k == 1) = false := by simpa using k1
  by_cases k2 : k = 2
  · subst k2
    rw [if_pos rfl]
    by_cases z1 : a = []
    · have hb : (a == []) = true := by rw [z1]; rfl
      rw [hb] at hsa
      rw [if_neg (fun h => h z1)]
      by_cases z2 : e2 = 0
      · subst z2
        rw [if_neg (fun h => h rfl)]
        cases nn with
        | true =>
          rw [if_pos rfl]
          obtain ⟨ev, eo, so, co, ⟨hev, hco⟩, R⟩ := RULES CC; rw [← hev]
          rw [← hco] at onn ock on1 on2 ova
          simp only [fpart, part', Tryd.f20, Option.getD]
          simp (maxSteps := 5000000) only [SA, SB, SD, R, guardAt, binP, intP, indexAddrP, elemsOf, readCells, lenP, lenAt, resultsP, resultP, oneOr, reduceCtorEq, reduceIte, Nat.reduceEqDiff, Nat.reduceAdd, Nat.zero_add, Nat.reduceMul, Nat.reduceLT, Nat.reduceLeDiff, Int.reduceLT, Int.reduceNeg, Int.reduceLE, appendP, appendAt, letGo, setLoc, locVal, Int.reduceToNat, boxCells, und, TG, SE, SC, List.getElem?_cons_zero, List.getElem?_cons_succ, eqgK, buildKy0, unP, htu, htr, hky, hev1, htg, hsp, hrl, loadR, loadP, lay, List.take_succ_cons, List.take_zero, List.drop_nil, List.filter_nil, List.cons_append, Int.reduceBEq, Int.reduceBNe, Int.reduceGT, Int.reduceLT, Int.reduceGE, Bool.not_true, Bool.not_false, onn, ock, on1, on2, ova, hlen, heq, hsa]
          exact ⟨_, rfl⟩
        | false =>
          rw [if_neg (by simp)]
          obtain ⟨ev, eo, so, co, ⟨hev, hco⟩, R⟩ := RULES CC; rw [← hev]
          rw [← hco] at onn ock on1 on2 ova
          simp only [fpart, part', Tryd.f20, Option.getD]
          simp (maxSteps := 5000000) only [SA, SB, SD, R, guardAt, binP, intP, indexAddrP, elemsOf, readCells, lenP, lenAt, resultsP, resultP, oneOr, reduceCtorEq, reduceIte, Nat.reduceEqDiff, Nat.reduceAdd, Nat.zero_add, Nat.reduceMul, Nat.reduceLT, Nat.reduceLeDiff, Int.reduceLT, Int.reduceNeg, Int.reduceLE, appendP, appendAt, letGo, setLoc, locVal, Int.reduceToNat, boxCells, und, TG, SE, SC, List.getElem?_cons_zero, List.getElem?_cons_succ, eqgK, buildKy0, unP, htu, htr, hky, hev1, htg, hsp, hrl, loadR, loadP, lay, List.take_succ_cons, List.take_zero, List.drop_nil, List.filter_nil, List.cons_append, Int.reduceBEq, Int.reduceBNe, Int.reduceGT, Int.reduceLT, Int.reduceGE, Bool.not_true, Bool.not_false, onn, ock, on1, on2, ova, hlen, heq, hsa]
          exact ⟨_, rfl⟩
      · have z2p : (e2 != 0) = true := by simpa using z2
        rw [if_pos z2]
        obtain ⟨ev, eo, so, co, ⟨hev, hco⟩, R⟩ := RULES CC; rw [← hev]
        rw [← hco] at onn ock on1 on2 ova
        simp only [fpart, part', Tryd.f20, Option.getD]
        simp (maxSteps := 5000000) only [SA, SB, SD, R, guardAt, binP, intP, indexAddrP, elemsOf, readCells, lenP, lenAt, resultsP, resultP, oneOr, reduceCtorEq, reduceIte, Nat.reduceEqDiff, Nat.reduceAdd, Nat.zero_add, Nat.reduceMul, Nat.reduceLT, Nat.reduceLeDiff, Int.reduceLT, Int.reduceNeg, Int.reduceLE, appendP, appendAt, letGo, setLoc, locVal, Int.reduceToNat, boxCells, und, TG, SE, SC, List.getElem?_cons_zero, List.getElem?_cons_succ, eqgK, buildKy0, unP, htu, htr, hky, hev1, htg, hsp, hrl, loadR, loadP, lay, List.take_succ_cons, List.take_zero, List.drop_nil, List.filter_nil, List.cons_append, Int.reduceBEq, Int.reduceBNe, Int.reduceGT, Int.reduceLT, Int.reduceGE, Bool.not_true, Bool.not_false, onn, ock, on1, on2, ova, hlen, heq, hsa, z2p]
        exact ⟨_, rfl⟩
    · have hb : (a == []) = false := by simpa using z1
      rw [hb] at hsa
      rw [if_pos z1]
      obtain ⟨ev, eo, so, co, ⟨hev, hco⟩, R⟩ := RULES CC; rw [← hev]
      rw [← hco] at onn ock on1 on2 ova
      simp only [fpart, part', Tryd.f20, Option.getD]
      simp (maxSteps := 5000000) only [SA, SB, SD, R, guardAt, binP, intP, indexAddrP, elemsOf, readCells, lenP, lenAt, resultsP, resultP, oneOr, reduceCtorEq, reduceIte, Nat.reduceEqDiff, Nat.reduceAdd, Nat.zero_add, Nat.reduceMul, Nat.reduceLT, Nat.reduceLeDiff, Int.reduceLT, Int.reduceNeg, Int.reduceLE, appendP, appendAt, letGo, setLoc, locVal, Int.reduceToNat, boxCells, und, TG, SE, SC, List.getElem?_cons_zero, List.getElem?_cons_succ, eqgK, buildKy0, unP, htu, htr, hky, hev1, htg, hsp, hrl, loadR, loadP, lay, List.take_succ_cons, List.take_zero, List.drop_nil, List.filter_nil, List.cons_append, Int.reduceBEq, Int.reduceBNe, Int.reduceGT, Int.reduceLT, Int.reduceGE, Bool.not_true, Bool.not_false, onn, ock, on1, on2, ova, hlen, heq, hsa]
      exact ⟨_, rfl⟩
  rw [if_neg k2]
  have k2p : (k == 2) = false := by simpa using k2
  by_cases k3 : k = 3
  · subst k3
    rw [if_pos (by omega)]
    cases kz with
    | false =>
      rw [if_pos (.inl rfl)]
      obtain ⟨ev, eo, so, co, ⟨hev, hco⟩, R⟩ := RULES CC; rw [← hev]
      rw [← hco] at onn ock on1 on2 ova
      simp only [fpart, part', Tryd.f20, Option.getD]
      simp (maxSteps := 5000000) only [SA, SB, SD, R, guardAt, binP, intP, indexAddrP, elemsOf, readCells, lenP, lenAt, resultsP, resultP, oneOr, reduceCtorEq, reduceIte, Nat.reduceEqDiff, Nat.reduceAdd, Nat.zero_add, Nat.reduceMul, Nat.reduceLT, Nat.reduceLeDiff, Int.reduceLT, Int.reduceNeg, Int.reduceLE, appendP, appendAt, letGo, setLoc, locVal, Int.reduceToNat, boxCells, und, TG, SE, SC, List.getElem?_cons_zero, List.getElem?_cons_succ, eqgK, buildKy0, unP, htu, htr, hky, hev1, htg, hsp, hrl, loadR, loadP, lay, List.take_succ_cons, List.take_zero, List.drop_nil, List.filter_nil, List.cons_append, Int.reduceBEq, Int.reduceBNe, Int.reduceGT, Int.reduceLT, Int.reduceGE, Bool.not_true, Bool.not_false, onn, ock, on1, on2, ova, hlen, heq, heq]
      exact ⟨_, rfl⟩
    | true =>
      cases nn with
      | false =>
        rw [if_pos (.inr rfl)]
        obtain ⟨ev, eo, so, co, ⟨hev, hco⟩, R⟩ := RULES CC; rw [← hev]
        rw [← hco] at onn ock on1 on2 ova
        simp only [fpart, part', Tryd.f20, Option.getD]
        simp (maxSteps := 5000000) only [SA, SB, SD, R, guardAt, binP, intP, indexAddrP, elemsOf, readCells, lenP, lenAt, resultsP, resultP, oneOr, reduceCtorEq, reduceIte, Nat.reduceEqDiff, Nat.reduceAdd, Nat.zero_add, Nat.reduceMul, Nat.reduceLT, Nat.reduceLeDiff, Int.reduceLT, Int.reduceNeg, Int.reduceLE, appendP, appendAt, letGo, setLoc, locVal, Int.reduceToNat, boxCells, und, TG, SE, SC, List.getElem?_cons_zero, List.getElem?_cons_succ, eqgK, buildKy0, unP, htu, htr, hky, hev1, htg, hsp, hrl, loadR, loadP, lay, List.take_succ_cons, List.take_zero, List.drop_nil, List.filter_nil, List.cons_append, Int.reduceBEq, Int.reduceBNe, Int.reduceGT, Int.reduceLT, Int.reduceGE, Bool.not_true, Bool.not_false, onn, ock, on1, on2, ova, hlen, heq, heq]
        exact ⟨_, rfl⟩
      | true =>
        rw [if_neg (by simp)]
        rw [if_neg (by omega)]
        cases va with
        | false =>
          rw [if_neg (by simp)]
          obtain ⟨ev, eo, so, co, ⟨hev, hco⟩, R⟩ := RULES CC; rw [← hev]
          rw [← hco] at onn ock on1 on2 ova
          simp only [fpart, part', Tryd.f20, Option.getD]
          simp (maxSteps := 5000000) only [SA, SB, SD, R, guardAt, binP, intP, indexAddrP, elemsOf, readCells, lenP, lenAt, resultsP, resultP, oneOr, reduceCtorEq, reduceIte, Nat.reduceEqDiff, Nat.reduceAdd, Nat.zero_add, Nat.reduceMul, Nat.reduceLT, Nat.reduceLeDiff, Int.reduceLT, Int.reduceNeg, Int.reduceLE, appendP, appendAt, letGo, setLoc, locVal, Int.reduceToNat, boxCells, und, TG, SE, SC, List.getElem?_cons_zero, List.getElem?_cons_succ, eqgK, buildKy0, unP, htu, htr, hky, hev1, htg, hsp, hrl, loadR, loadP, lay, List.take_succ_cons, List.take_zero, List.drop_nil, List.filter_nil, List.cons_append, Int.reduceBEq, Int.reduceBNe, Int.reduceGT, Int.reduceLT, Int.reduceGE, Bool.not_true, Bool.not_false, onn, ock, on1, on2, ova, hlen, heq, heq]
          exact ⟨_, rfl⟩
        | true =>
          rw [if_pos rfl]
          obtain ⟨ev, eo, so, co, ⟨hev, hco⟩, R⟩ := RULES CC; rw [← hev]
          rw [← hco] at onn ock on1 on2 ova
          simp only [fpart, part', Tryd.f20, Option.getD]
          simp (maxSteps := 5000000) only [SA, SB, SD, R, guardAt, binP, intP, indexAddrP, elemsOf, readCells, lenP, lenAt, resultsP, resultP, oneOr, reduceCtorEq, reduceIte, Nat.reduceEqDiff, Nat.reduceAdd, Nat.zero_add, Nat.reduceMul, Nat.reduceLT, Nat.reduceLeDiff, Int.reduceLT, Int.reduceNeg, Int.reduceLE, appendP, appendAt, letGo, setLoc, locVal, Int.reduceToNat, boxCells, und, TG, SE, SC, List.getElem?_cons_zero, List.getElem?_cons_succ, eqgK, buildKy0, unP, htu, htr, hky, hev1, htg, hsp, hrl, loadR, loadP, lay, List.take_succ_cons, List.take_zero, List.drop_nil, List.filter_nil, List.cons_append, Int.reduceBEq, Int.reduceBNe, Int.reduceGT, Int.reduceLT, Int.reduceGE, Bool.not_true, Bool.not_false, onn, ock, on1, on2, ova, hlen, heq, heq]
          exact ⟨_, rfl⟩
  have k3p : (k == 3) = false := by simpa using k3
  by_cases k4 : k = 4
  · subst k4
    rw [if_pos (by omega)]
    cases kz with
    | false =>
      rw [if_pos (.inl rfl)]
      obtain ⟨ev, eo, so, co, ⟨hev, hco⟩, R⟩ := RULES CC; rw [← hev]
      rw [← hco] at onn ock on1 on2 ova
      simp only [fpart, part', Tryd.f20, Option.getD]
      simp (maxSteps := 5000000) only [SA, SB, SD, R, guardAt, binP, intP, indexAddrP, elemsOf, readCells, lenP, lenAt, resultsP, resultP, oneOr, reduceCtorEq, reduceIte, Nat.reduceEqDiff, Nat.reduceAdd, Nat.zero_add, Nat.reduceMul, Nat.reduceLT, Nat.reduceLeDiff, Int.reduceLT, Int.reduceNeg, Int.reduceLE, appendP, appendAt, letGo, setLoc, locVal, Int.reduceToNat, boxCells, und, TG, SE, SC, List.getElem?_cons_zero, List.getElem?_cons_succ, eqgK, buildKy0, unP, htu, htr, hky, hev1, htg, hsp, hrl, loadR, loadP, lay, List.take_succ_cons, List.take_zero, List.drop_nil, List.filter_nil, List.cons_append, Int.reduceBEq, Int.reduceBNe, Int.reduceGT, Int.reduceLT, Int.reduceGE, Bool.not_true, Bool.not_false, onn, ock, on1, on2, ova, hlen, heq, heq]
      exact ⟨_, rfl⟩
    | true =>
      cases nn with
      | false =>
        rw [if_pos (.inr rfl)]
        obtain ⟨ev, eo, so, co, ⟨hev, hco⟩, R⟩ := RULES CC; rw [← hev]
        rw [← hco] at onn ock on1 on2 ova
        simp only [fpart, part', Tryd.f20, Option.getD]
        simp (maxSteps := 5000000) only [SA, SB, SD, R, guardAt, binP, intP, indexAddrP, elemsOf, readCells, lenP, lenAt, resultsP, resultP, oneOr, reduceCtorEq, reduceIte, Nat.reduceEqDiff, Nat.reduceAdd, Nat.zero_add, Nat.reduceMul, Nat.reduceLT, Nat.reduceLeDiff, Int.reduceLT, Int.reduceNeg, Int.reduceLE, appendP, appendAt, letGo, setLoc, locVal, Int.reduceToNat, boxCells, und, TG, SE, SC, List.getElem?_cons_zero, List.getElem?_cons_succ, eqgK, buildKy0, unP, htu, htr, hky, hev1, htg, hsp, hrl, loadR, loadP, lay, List.take_succ_cons, List.take_zero, List.drop_nil, List.filter_nil, List.cons_append, Int.reduceBEq, Int.reduceBNe, Int.reduceGT, Int.reduceLT, Int.reduceGE, Bool.not_true, Bool.not_false, onn, ock, on1, on2, ova, hlen, heq, heq]
        exact ⟨_, rfl⟩
      | true =>
        rw [if_neg (by simp)]
        rw [if_neg (by omega)]
        cases va with
        | false =>
          rw [if_neg (by simp)]
          obtain ⟨ev, eo, so, co, ⟨hev, hco⟩, R⟩ := RULES CC; rw [← hev]
          rw [← hco] at onn ock on1 on2 ova
          simp only [fpart, part', Tryd.f20, Option.getD]
          simp (maxSteps := 5000000) only [SA, SB, SD, R, guardAt, binP, intP, indexAddrP, elemsOf, readCells, lenP, lenAt, resultsP, resultP, oneOr, reduceCtorEq, reduceIte, Nat.reduceEqDiff, Nat.reduceAdd, Nat.zero_add, Nat.reduceMul, Nat.reduceLT, Nat.reduceLeDiff, Int.reduceLT, Int.reduceNeg, Int.reduceLE, appendP, appendAt, letGo, setLoc, locVal, Int.reduceToNat, boxCells, und, TG, SE, SC, List.getElem?_cons_zero, List.getElem?_cons_succ, eqgK, buildKy0, unP, htu, htr, hky, hev1, htg, hsp, hrl, loadR, loadP, lay, List.take_succ_cons, List.take_zero, List.drop_nil, List.filter_nil, List.cons_append, Int.reduceBEq, Int.reduceBNe, Int.reduceGT, Int.reduceLT, Int.reduceGE, Bool.not_true, Bool.not_false, onn, ock, on1, on2, ova, hlen, heq, heq]
          exact ⟨_, rfl⟩
        | true =>
          rw [if_pos rfl]
          obtain ⟨ev, eo, so, co, ⟨hev, hco⟩, R⟩ := RULES CC; rw [← hev]
          rw [← hco] at onn ock on1 on2 ova
          simp only [fpart, part', Tryd.f20, Option.getD]
          simp (maxSteps := 5000000) only [SA, SB, SD, R, guardAt, binP, intP, indexAddrP, elemsOf, readCells, lenP, lenAt, resultsP, resultP, oneOr, reduceCtorEq, reduceIte, Nat.reduceEqDiff, Nat.reduceAdd, Nat.zero_add, Nat.reduceMul, Nat.reduceLT, Nat.reduceLeDiff, Int.reduceLT, Int.reduceNeg, Int.reduceLE, appendP, appendAt, letGo, setLoc, locVal, Int.reduceToNat, boxCells, und, TG, SE, SC, List.getElem?_cons_zero, List.getElem?_cons_succ, eqgK, buildKy0, unP, htu, htr, hky, hev1, htg, hsp, hrl, loadR, loadP, lay, List.take_succ_cons, List.take_zero, List.drop_nil, List.filter_nil, List.cons_append, Int.reduceBEq, Int.reduceBNe, Int.reduceGT, Int.reduceLT, Int.reduceGE, Bool.not_true, Bool.not_false, onn, ock, on1, on2, ova, hlen, heq, heq]
          exact ⟨_, rfl⟩
  have k4p : (k == 4) = false := by simpa using k4
  by_cases k5 : k = 5
  · subst k5
    rw [if_pos (by omega)]
    cases kz with
    | false =>
      rw [if_pos (.inl rfl)]
      obtain ⟨ev, eo, so, co, ⟨hev, hco⟩, R⟩ := RULES CC; rw [← hev]
      rw [← hco] at onn ock on1 on2 ova
      simp only [fpart, part', Tryd.f20, Option.getD]
      simp (maxSteps := 5000000) only [SA, SB, SD, R, guardAt, binP, intP, indexAddrP, elemsOf, readCells, lenP, lenAt, resultsP, resultP, oneOr, reduceCtorEq, reduceIte, Nat.reduceEqDiff, Nat.reduceAdd, Nat.zero_add, Nat.reduceMul, Nat.reduceLT, Nat.reduceLeDiff, Int.reduceLT, Int.reduceNeg, Int.reduceLE, appendP, appendAt, letGo, setLoc, locVal, Int.reduceToNat, boxCells, und, TG, SE, SC, List.getElem?_cons_zero, List.getElem?_cons_succ, eqgK, buildKy0, unP, htu, htr, hky, hev1, htg, hsp, hrl, loadR, loadP, lay, List.take_succ_cons, List.take_zero, List.drop_nil, List.filter_nil, List.cons_append, Int.reduceBEq, Int.reduceBNe, Int.reduceGT, Int.reduceLT, Int.reduceGE, Bool.not_true, Bool.not_false, onn, ock, on1, on2, ova, hlen, heq, heq]
      exact ⟨_, rfl⟩
    | true =>
      cases nn with
      | false =>
        rw [if_pos (.inr rfl)]
        obtain ⟨ev, eo, so, co, ⟨hev, hco⟩, R⟩ := RULES CC; rw [← hev]
        rw [← hco] at onn ock on1 on2 ova
        simp only [fpart, part', Tryd.f20, Option.getD]
        simp (maxSteps := 5000000) only [SA, SB, SD, R, guardAt, binP, intP, indexAddrP, elemsOf, readCells, lenP, lenAt, resultsP, resultP, oneOr, reduceCtorEq, reduceIte, Nat.reduceEqDiff, Nat.reduceAdd, Nat.zero_add, Nat.reduceMul, Nat.reduceLT, Nat.reduceLeDiff, Int.reduceLT, Int.reduceNeg, Int.reduceLE, appendP, appendAt, letGo, setLoc, locVal, Int.reduceToNat, boxCells, und, TG, SE, SC, List.getElem?_cons_zero, List.getElem?_cons_succ, eqgK, buildKy0, unP, htu, htr, hky, hev1, htg, hsp, hrl, loadR, loadP, lay, List.take_succ_cons, List.take_zero, List.drop_nil, List.filter_nil, List.cons_append, Int.reduceBEq, Int.reduceBNe, Int.reduceGT, Int.reduceLT, Int.reduceGE, Bool.not_true, Bool.not_false, onn, ock, on1, on2, ova, hlen, heq, heq]
        exact ⟨_, rfl⟩
      | true =>
        rw [if_neg (by simp)]
        rw [if_pos rfl]
        by_cases z1 : (nm.length : Int) > 60
        · rw [if_pos (by omega)]
          obtain ⟨ev, eo, so, co, ⟨hev, hco⟩, R⟩ := RULES CC; rw [← hev]
          rw [← hco] at onn ock on1 on2 ova
          simp only [fpart, part', Tryd.f20, Option.getD]
          simp (maxSteps := 5000000) only [SA, SB, SD, R, guardAt, binP, intP, indexAddrP, elemsOf, readCells, lenP, lenAt, resultsP, resultP, oneOr, reduceCtorEq, reduceIte, Nat.reduceEqDiff, Nat.reduceAdd, Nat.zero_add, Nat.reduceMul, Nat.reduceLT, Nat.reduceLeDiff, Int.reduceLT, Int.reduceNeg, Int.reduceLE, appendP, appendAt, letGo, setLoc, locVal, Int.reduceToNat, boxCells, und, TG, SE, SC, List.getElem?_cons_zero, List.getElem?_cons_succ, eqgK, buildKy0, unP, htu, htr, hky, hev1, htg, hsp, hrl, loadR, loadP, lay, List.take_succ_cons, List.take_zero, List.drop_nil, List.filter_nil, List.cons_append, Int.reduceBEq, Int.reduceBNe, Int.reduceGT, Int.reduceLT, Int.reduceGE, Bool.not_true, Bool.not_false, onn, ock, on1, on2, ova, hlen, heq, z1]
          exact ⟨_, rfl⟩
        · rw [if_neg (by omega)]
          obtain ⟨ev, eo, so, co, ⟨hev, hco⟩, R⟩ := RULES CC; rw [← hev]
          rw [← hco] at onn ock on1 on2 ova
          simp only [fpart, part', Tryd.f20, Option.getD]
          simp (maxSteps := 5000000) only [SA, SB, SD, R, guardAt, binP, intP, indexAddrP, elemsOf, readCells, lenP, lenAt, resultsP, resultP, oneOr, reduceCtorEq, reduceIte, Nat.reduceEqDiff, Nat.reduceAdd, Nat.zero_add, Nat.reduceMul, Nat.reduceLT, Nat.reduceLeDiff, Int.reduceLT, Int.reduceNeg, Int.reduceLE, appendP, appendAt, letGo, setLoc, locVal, Int.reduceToNat, boxCells, und, TG, SE, SC, List.getElem?_cons_zero, List.getElem?_cons_succ, eqgK, buildKy0, unP, htu, htr, hky, hev1, htg, hsp, hrl, loadR, loadP, lay, List.take_succ_cons, List.take_zero, List.drop_nil, List.filter_nil, List.cons_append, Int.reduceBEq, Int.reduceBNe, Int.reduceGT, Int.reduceLT, Int.reduceGE, Bool.not_true, Bool.not_false, onn, ock, on1, on2, ova, hlen, heq, z1]
          exact ⟨_, rfl⟩
  have k5p : (k == 5) = false := by simpa using k5
  rw [if_neg (by omega)]
  obtain ⟨ev, eo, so, co, ⟨hev, hco⟩, R⟩ := RULES CC; rw [← hev]
  rw [← hco] at onn ock on1 on2 ova
  simp only [fpart, part', Tryd.f20, Option.getD]
  simp (maxSteps := 5000000) only [SA, SB, SD, R, guardAt, binP, intP, indexAddrP, elemsOf, readCells, lenP, lenAt, resultsP, resultP, oneOr, reduceCtorEq, reduceIte, Nat.reduceEqDiff, Nat.reduceAdd, Nat.zero_add, Nat.reduceMul, Nat.reduceLT, Nat.reduceLeDiff, Int.reduceLT, Int.reduceNeg, Int.reduceLE, appendP, appendAt, letGo, setLoc, locVal, Int.reduceToNat, boxCells, und, TG, SE, SC, List.getElem?_cons_zero, List.getElem?_cons_succ, eqgK, buildKy0, unP, htu, htr, hky, hev1, htg, hsp, hrl, loadR, loadP, lay, List.take_succ_cons, List.take_zero, List.drop_nil, List.filter_nil, List.cons_append, Int.reduceBEq, Int.reduceBNe, Int.reduceGT, Int.reduceLT, Int.reduceGE, Bool.not_true, Bool.not_false, onn, ock, on1, on2, ova, hlen, heq, k1p, k2p, k3p, k4p, k5p]
  exact ⟨_, rfl⟩
theorem op_print_step (s : Sp) (hp : plSp s = true) (bx) : callOp CC (callL CC) 20 [spV s] bx = some (.ret (.int .i64 (spE s)), bx) := by
  obtain ⟨b, h⟩ := call_print_step s hp
  exact callOp_of rfl (by simp only [pureL_cons, spV_pure, pureL_nil, Bool.and_self]) h rfl
set_option maxHeartbeats 4000000
set_option maxHeartbeats 4000000
theorem ok_print_Check : fnOK CC Tryd.f7 (Tryd.f7.body.getD .skip) = true := by kernel_rfl
theorem fat_print_Check : CC.P.funcs[7]? = some Tryd.f7 := by kernel_rfl
/-- the first error -/
def fsE {α : Type} (f : α → Int) : List α → Int
  | [] => 0
  | x :: r => if f x ≠ 0 then f x else fsE f r
/-- what a loop leaves: it went through, or it returned an error -/
def PFe (j : Nat) (bx : List PBox) (v : Int) (res : Option (Ex × St)) : Prop := ∃ e' ex, (v = 0 ∧ res = some (.exit j, ⟨e', bx ++ ex⟩) ∧ getT e' 1 = .bp 0 0) ∨ (v ≠ 0 ∧ res = some (.ret, ⟨e', bx ++ ex⟩) ∧ getT e' 2 = .int .i64 v)
theorem PFe.app {j : Nat} {bx : List PBox} {x : PBox} {v : Int} {res : Option (Ex × St)} (h : PFe j (bx ++ [x]) v res) : PFe j bx v res := by
  obtain ⟨e', ex, h⟩ := h
  refine ⟨e', [x] ++ ex, ?_⟩
  rw [← List.append_assoc]
  exact h
theorem loop_pon (L : Code) (hL : L = fpart Tryd.f7 [1,1,1,1,0,1,0]) (l : List Tg) (hl : l.length ≤ 12) (hc : ∀ t ∈ l, ∀ bx, callOp CC (callL CC) 18 [tgV t] bx = some (.ret (.int .i64 (tgE t)), bx)) : ∀ (k i : Nat) (e : List PV) (bx : List PBox) , i + k = l.length →
    getT e 1 = .bp 0 0 → getT e 45 = .sl (l.map tgV) → getT e 46 = .int .i64 l.length → getT e 47 = .int .i64 i → PFe 0 bx (fsE tgE (l.drop i)) (evL CC L ⟨e, bx⟩) := by
  intro k
  induction k with
  | zero =>
    intro i e bx hi0 e1 es el ei
    rw [evL_at (fpart Tryd.f7 [1,1,1,1,0,1,0,0]) hL]
    have hi : ¬ ((i : Int) < (l.length : Int)) := by omega
    rw [List.drop_eq_nil_of_le (by omega)]
    unfold fsE
    obtain ⟨tu, htu⟩ := VLs
    obtain ⟨tr, htr⟩ := TRs
    obtain ⟨tk, hky⟩ := KYs
    obtain ⟨te, hev1⟩ := EVs
    obtain ⟨tg, htg⟩ := TG_s
    obtain ⟨tp, hsp⟩ := SPs
    obtain ⟨tl, hrl⟩ := RLs
    generalize l.map tgV = xs at *
    obtain ⟨ev, eo, so, co, ⟨hev, hco⟩, R⟩ := RULES CC; rw [← hev]
    simp only [fpart, part', Tryd.f7, Option.getD]
    simp (maxSteps := 5000000) only [SA, SB, SD, R, guardAt, binP, intP, indexAddrP, elemsOf, readCells, lenP, lenAt, resultsP, resultP, oneOr, reduceCtorEq, reduceIte, Nat.reduceEqDiff, Nat.reduceAdd, Nat.zero_add, Nat.reduceMul, Nat.reduceLT, Nat.reduceLeDiff, Int.reduceLT, Int.reduceNeg, Int.reduceLE, appendP, appendAt, letGo, setLoc, locVal, Int.reduceToNat, boxCells, und, TG, SE, SC, TGf, SPf, List.getElem?_concat_length, List.getElem?_cons_zero, List.getElem?_cons_succ, List.take_nil, unP, htu, htr, hky, hev1, htg, hsp, hrl, loadR, loadP, lay, List.take_succ_cons, List.take_zero, List.drop_nil, List.filter_nil, List.cons_append, Int.reduceBEq, Int.reduceBNe, Int.reduceGT, Int.reduceGE, Bool.not_true, Bool.not_false, e1, es, el, ei, hi]
    exact ⟨_, [], .inl ⟨rfl, by rw [List.append_nil], by simp (maxSteps := 5000000) only [SA, SB, SD, R, guardAt, binP, intP, indexAddrP, elemsOf, readCells, lenP, lenAt, resultsP, resultP, oneOr, reduceCtorEq, reduceIte, Nat.reduceEqDiff, Nat.reduceAdd, Nat.zero_add, Nat.reduceMul, Nat.reduceLT, Nat.reduceLeDiff, Int.reduceLT, Int.reduceNeg, Int.reduceLE, appendP, appendAt, letGo, setLoc, locVal, Int.reduceToNat, boxCells, und, e1]⟩⟩
  | succ k ih =>
    intro i e bx hi0 e1 es el ei
    rw [evL_at (fpart Tryd.f7 [1,1,1,1,0,1,0,0]) hL]
    have hi : ((i : Int) < (l.length : Int)) := by omega
    have hi0' : ¬ ((i : Int) < 0) := by omega
    have hdr : l.drop i = (l[i]'(by omega)) :: l.drop (i + 1) := List.drop_eq_getElem_cons (by omega)
    have hx : (l.map tgV)[i]? = some (tgV (l[i]'(by omega))) := by rw [List.getElem?_map, List.getElem?_eq_getElem (by omega)]; rfl
    have hw1 := wrap_i64 (n := (i : Int) + 1) ⟨by omega, by omega⟩
    have hop := hc (l[i]'(by omega)) (List.getElem_mem _)
    have key := fun e bx => ih (i + 1) e bx (by omega)
    have cast1 : ((i + 1 : Nat) : Int) = (i : Int) + 1 := by omega
    rw [cast1] at key
    rw [hdr]
    unfold fsE
    generalize l[i]'(by omega) = x at *
    generalize fsE tgE (l.drop (i + 1)) = v at *
    generalize tgE x = er at *
    generalize l.map tgV = xs at *
    obtain ⟨xk, xkey, xev, xnm, xn, xm⟩ := x
    obtain ⟨xd, xcl, xat⟩ := xkey
    obtain ⟨yd, yc, yn⟩ := xev
    unfold tgV at hx hop
    simp only at hx hop
    obtain ⟨tu, htu⟩ := VLs
    obtain ⟨tr, htr⟩ := TRs
    obtain ⟨tk, hky⟩ := KYs
    obtain ⟨te, hev1⟩ := EVs
    obtain ⟨tg, htg⟩ := TG_s
    obtain ⟨tp, hsp⟩ := SPs
    obtain ⟨tl, hrl⟩ := RLs
    by_cases c1 : er = 0
    · subst c1
      rw [if_neg (by simp)]
      apply PFe.app
      obtain ⟨ev, eo, so, co, ⟨hev, hco⟩, R⟩ := RULES CC; rw [← hev]
      rw [← hev] at key
      rw [← hco] at hop
      simp only [fpart, part', Tryd.f7, Option.getD]
      simp (maxSteps := 5000000) only [SA, SB, SD, R, guardAt, binP, intP, indexAddrP, elemsOf, readCells, lenP, lenAt, resultsP, resultP, oneOr, reduceCtorEq, reduceIte, Nat.reduceEqDiff, Nat.reduceAdd, Nat.zero_add, Nat.reduceMul, Nat.reduceLT, Nat.reduceLeDiff, Int.reduceLT, Int.reduceNeg, Int.reduceLE, appendP, appendAt, letGo, setLoc, locVal, Int.reduceToNat, boxCells, und, TG, SE, SC, TGf, SPf, List.getElem?_concat_length, List.getElem?_cons_zero, List.getElem?_cons_succ, List.take_nil, unP, htu, htr, hky, hev1, htg, hsp, hrl, loadR, loadP, lay, List.take_succ_cons, List.take_zero, List.drop_nil, List.filter_nil, List.cons_append, Int.reduceBEq, Int.reduceBNe, Int.reduceGT, Int.reduceGE, Bool.not_true, Bool.not_false, e1, es, el, ei, hi, hi0', hx, hw1, hop]
      refine key _ _ ?_ ?_ ?_ ?_
      all_goals simp (maxSteps := 5000000) only [SA, SB, SD, R, guardAt, binP, intP, indexAddrP, elemsOf, readCells, lenP, lenAt, resultsP, resultP, oneOr, reduceCtorEq, reduceIte, Nat.reduceEqDiff, Nat.reduceAdd, Nat.zero_add, Nat.reduceMul, Nat.reduceLT, Nat.reduceLeDiff, Int.reduceLT, Int.reduceNeg, Int.reduceLE, appendP, appendAt, letGo, setLoc, locVal, Int.reduceToNat, boxCells, und, e1, es, el, ei]
    · have c1p : (er != 0) = true := by simpa using c1
      rw [if_pos c1]
      obtain ⟨ev, eo, so, co, ⟨hev, hco⟩, R⟩ := RULES CC; rw [← hev]
      rw [← hco] at hop
      simp only [fpart, part', Tryd.f7, Option.getD]
      simp (maxSteps := 5000000) only [SA, SB, SD, R, guardAt, binP, intP, indexAddrP, elemsOf, readCells, lenP, lenAt, resultsP, resultP, oneOr, reduceCtorEq, reduceIte, Nat.reduceEqDiff, Nat.reduceAdd, Nat.zero_add, Nat.reduceMul, Nat.reduceLT, Nat.reduceLeDiff, Int.reduceLT, Int.reduceNeg, Int.reduceLE, appendP, appendAt, letGo, setLoc, locVal, Int.reduceToNat, boxCells, und, TG, SE, SC, TGf, SPf, List.getElem?_concat_length, List.getElem?_cons_zero, List.getElem?_cons_succ, List.take_nil, unP, htu, htr, hky, hev1, htg, hsp, hrl, loadR, loadP, lay, List.take_succ_cons, List.take_zero, List.drop_nil, List.filter_nil, List.cons_append, Int.reduceBEq, Int.reduceBNe, Int.reduceGT, Int.reduceGE, Bool.not_true, Bool.not_false, e1, es, el, ei, hi, hi0', hx, hop, c1p]
      exact ⟨_, _, .inr ⟨c1, rfl, by simp (maxSteps := 5000000) only [SA, SB, SD, R, guardAt, binP, intP, indexAddrP, elemsOf, readCells, lenP, lenAt, resultsP, resultP, oneOr, reduceCtorEq, reduceIte, Nat.reduceEqDiff, Nat.reduceAdd, Nat.zero_add, Nat.reduceMul, Nat.reduceLT, Nat.reduceLeDiff, Int.reduceLT, Int.reduceNeg, Int.reduceLE, appendP, appendAt, letGo, setLoc, locVal, Int.reduceToNat, boxCells, und]⟩⟩
theorem loop_pdo (L : Code) (hL : L = fpart Tryd.f7 [1,1,1,1,1,1,0,1,0]) (l : List Sp) (hl : l.length ≤ 12) (hc : ∀ t ∈ l, ∀ bx, callOp CC (callL CC) 20 [spV t] bx = some (.ret (.int .i64 (spE t)), bx)) : ∀ (k i : Nat) (e : List PV) (bx : List PBox) , i + k = l.length →
    getT e 1 = .bp 0 0 → getT e 64 = .sl (l.map spV) → getT e 65 = .int .i64 l.length → getT e 66 = .int .i64 i → PFe 2 bx (fsE spE (l.drop i)) (evL CC L ⟨e, bx⟩) := by
  intro k
  induction k with
  | zero =>
    intro i e bx hi0 e1 es el ei
    rw [evL_at (fpart Tryd.f7 [1,1,1,1,1,1,0,1,0,0]) hL]
    have hi : ¬ ((i : Int) < (l.length : Int)) := by omega
    rw [List.drop_eq_nil_of_le (by omega)]
    unfold fsE
    obtain ⟨tu, htu⟩ := VLs
    obtain ⟨tr, htr⟩ := TRs
    obtain ⟨tk, hky⟩ := KYs
    obtain ⟨te, hev1⟩ := EVs
    obtain ⟨tg, htg⟩ := TG_s
    obtain ⟨tp, hsp⟩ := SPs
    obtain ⟨tl, hrl⟩ := RLs
    generalize l.map spV = xs at *
    obtain ⟨ev, eo, so, co, ⟨hev, hco⟩, R⟩ := RULES CC; rw [← hev]
    simp only [fpart, part', Tryd.f7, Option.getD]
    simp (maxSteps := 5000000) only [SA, SB, SD, R, guardAt, binP, intP, indexAddrP, elemsOf, readCells, lenP, lenAt, resultsP, resultP, oneOr, reduceCtorEq, reduceIte, Nat.reduceEqDiff, Nat.reduceAdd, Nat.zero_add, Nat.reduceMul, Nat.reduceLT, Nat.reduceLeDiff, Int.reduceLT, Int.reduceNeg, Int.reduceLE, appendP, appendAt, letGo, setLoc, locVal, Int.reduceToNat, boxCells, und, TG, SE, SC, TGf, SPf, List.getElem?_concat_length, List.getElem?_cons_zero, List.getElem?_cons_succ, List.take_nil, unP, htu, htr, hky, hev1, htg, hsp, hrl, loadR, loadP, lay, List.take_succ_cons, List.take_zero, List.drop_nil, List.filter_nil, List.cons_append, Int.reduceBEq, Int.reduceBNe, Int.reduceGT, Int.reduceGE, Bool.not_true, Bool.not_false, e1, es, el, ei, hi]
    exact ⟨_, [], .inl ⟨rfl, by rw [List.append_nil], by simp (maxSteps := 5000000) only [SA, SB, SD, R, guardAt, binP, intP, indexAddrP, elemsOf, readCells, lenP, lenAt, resultsP, resultP, oneOr, reduceCtorEq, reduceIte, Nat.reduceEqDiff, Nat.reduceAdd, Nat.zero_add, Nat.reduceMul, Nat.reduceLT, Nat.reduceLeDiff, Int.reduceLT, Int.reduceNeg, Int.reduceLE, appendP, appendAt, letGo, setLoc, locVal, Int.reduceToNat, boxCells, und, e1]⟩⟩
  | succ k ih =>
    intro i e bx hi0 e1 es el ei
    rw [evL_at (fpart Tryd.f7 [1,1,1,1,1,1,0,1,0,0]) hL]
    have hi : ((i : Int) < (l.length : Int)) := by omega
    have hi0' : ¬ ((i : Int) < 0) := by omega
    have hdr : l.drop i = (l[i]'(by omega)) :: l.drop (i + 1) := List.drop_eq_getElem_cons (by omega)
    have hx : (l.map spV)[i]? = some (spV (l[i]'(by omega))) := by rw [List.getElem?_map, List.getElem?_eq_getElem (by omega)]; rfl
    have hw1 := wrap_i64 (n := (i : Int) + 1) ⟨by omega, by omega⟩
    have hop := hc (l[i]'(by omega)) (List.getElem_mem _)
    have key := fun e bx => ih (i + 1) e bx (by omega)
    have cast1 : ((i + 1 : Nat) : Int) = (i : Int) + 1 := by omega
    rw [cast1] at key
    rw [hdr]
    unfold fsE
    generalize l[i]'(by omega) = x at *
    generalize fsE spE (l.drop (i + 1)) = v at *
    generalize spE x = er at *
    generalize l.map spV = xs at *
    obtain ⟨xk, xkey, xnm, xt⟩ := x
    obtain ⟨xd, xcl, xat⟩ := xkey
    unfold spV trC at hx hop
    obtain ⟨zk, zn, zm, znm, zv, zkey, zkids⟩ := xt
    unfold trV at hx hop
    simp only [SA, List.cons_append, List.nil_append] at hx hop
    generalize trVs zkids = zs at *
    obtain ⟨tu, htu⟩ := VLs
    obtain ⟨tr, htr⟩ := TRs
    obtain ⟨tk, hky⟩ := KYs
    obtain ⟨te, hev1⟩ := EVs
    obtain ⟨tg, htg⟩ := TG_s
    obtain ⟨tp, hsp⟩ := SPs
    obtain ⟨tl, hrl⟩ := RLs
    by_cases c1 : er = 0
    · subst c1
      rw [if_neg (by simp)]
      apply PFe.app
      obtain ⟨ev, eo, so, co, ⟨hev, hco⟩, R⟩ := RULES CC; rw [← hev]
      rw [← hev] at key
      rw [← hco] at hop
      simp only [fpart, part', Tryd.f7, Option.getD]
      simp (maxSteps := 5000000) only [SA, SB, SD, R, guardAt, binP, intP, indexAddrP, elemsOf, readCells, lenP, lenAt, resultsP, resultP, oneOr, reduceCtorEq, reduceIte, Nat.reduceEqDiff, Nat.reduceAdd, Nat.zero_add, Nat.reduceMul, Nat.reduceLT, Nat.reduceLeDiff, Int.reduceLT, Int.reduceNeg, Int.reduceLE, appendP, appendAt, letGo, setLoc, locVal, Int.reduceToNat, boxCells, und, TG, SE, SC, TGf, SPf, List.getElem?_concat_length, List.getElem?_cons_zero, List.getElem?_cons_succ, List.take_nil, unP, htu, htr, hky, hev1, htg, hsp, hrl, loadR, loadP, lay, List.take_succ_cons, List.take_zero, List.drop_nil, List.filter_nil, List.cons_append, Int.reduceBEq, Int.reduceBNe, Int.reduceGT, Int.reduceGE, Bool.not_true, Bool.not_false, e1, es, el, ei, hi, hi0', hx, hw1, hop]
      refine key _ _ ?_ ?_ ?_ ?_
      all_goals simp (maxSteps := 5000000) only [SA, SB, SD, R, guardAt, binP, intP, indexAddrP, elemsOf, readCells, lenP, lenAt, resultsP, resultP, oneOr, reduceCtorEq, reduceIte, Nat.reduceEqDiff, Nat.reduceAdd, Nat.zero_add, Nat.reduceMul, Nat.reduceLT, Nat.reduceLeDiff, Int.reduceLT, Int.reduceNeg, Int.reduceLE, appendP, appendAt, letGo, setLoc, locVal, Int.reduceToNat, boxCells, und, e1, es, el, ei]
    · have c1p : (er != 0) = true := by simpa using c1
      rw [if_pos c1]
      obtain ⟨ev, eo, so, co, ⟨hev, hco⟩, R⟩ := RULES CC; rw [← hev]
      rw [← hco] at hop
      simp only [fpart, part', Tryd.f7, Option.getD]
      simp (maxSteps := 5000000) only [SA, SB, SD, R, guardAt, binP, intP, indexAddrP, elemsOf, readCells, lenP, lenAt, resultsP, resultP, oneOr, reduceCtorEq, reduceIte, Nat.reduceEqDiff, Nat.reduceAdd, Nat.zero_add, Nat.reduceMul, Nat.reduceLT, Nat.reduceLeDiff, Int.reduceLT, Int.reduceNeg, Int.reduceLE, appendP, appendAt, letGo, setLoc, locVal, Int.reduceToNat, boxCells, und, TG, SE, SC, TGf, SPf, List.getElem?_concat_length, List.getElem?_cons_zero, List.getElem?_cons_succ, List.take_nil, unP, htu, htr, hky, hev1, htg, hsp, hrl, loadR, loadP, lay, List.take_succ_cons, List.take_zero, List.drop_nil, List.filter_nil, List.cons_append, Int.reduceBEq, Int.reduceBNe, Int.reduceGT, Int.reduceGE, Bool.not_true, Bool.not_false, e1, es, el, ei, hi, hi0', hx, hop, c1p]
      exact ⟨_, _, .inr ⟨c1, rfl, by simp (maxSteps := 5000000) only [SA, SB, SD, R, guardAt, binP, intP, indexAddrP, elemsOf, readCells, lenP, lenAt, resultsP, resultP, oneOr, reduceCtorEq, reduceIte, Nat.reduceEqDiff, Nat.reduceAdd, Nat.zero_add, Nat.reduceMul, Nat.reduceLT, Nat.reduceLeDiff, Int.reduceLT, Int.reduceNeg, Int.reduceLE, appendP, appendAt, letGo, setLoc, locVal, Int.reduceToNat, boxCells, und]⟩⟩
set_option maxHeartbeats 4000000
/-- what is said of a rule -/
def rlE (r : Rl) : Int := if valB r.nm = false then 10 else if r.pr < 0 ∨ 100 < r.pr then 2 else if r.on.length < 1 ∨ 8 < r.on.length ∨ r.dos.length < 1 ∨ 8 < r.dos.length then 3 else
  if fsE tgE r.on ≠ 0 then fsE tgE r.on else if ckT r.ife ≠ 0 then ckT r.ife else fsE spE r.dos
theorem plRl_len {r : Rl} (h : plRl r = true) : r.nm.length ≤ 100 ∧ r.on.length ≤ 12 ∧ r.dos.length ≤ 12 ∧ 0 ≤ mdT r.ife 220 30 ∧ (∀ t ∈ r.on, plTg t = true) ∧ ∀ s ∈ r.dos, plSp s = true := by
  unfold plRl at h
  rw [Bool.and_eq_true, Bool.and_eq_true, List.all_eq_true, List.all_eq_true] at h
  obtain ⟨⟨h1, h2⟩, h3⟩ := h
  have h1 := of_decide_eq_true h1
  exact ⟨h1.1, h1.2.1, h1.2.2.1, h1.2.2.2, h2, h3⟩
theorem call_print_Check (hT : ∀ t, plTg t = true → ∀ bx, callOp CC (callL CC) 18 [tgV t] bx = some (.ret (.int .i64 (tgE t)), bx)) (r : Rl) (hp : plRl r = true) : ∃ bx, callL CC 7 [rlV r] [] = some (.ret (.int .i64 (rlE r)), bx) := by
  obtain ⟨g1, g2, g3, g4, g5, g6⟩ := plRl_len hp
  unfold rlE
  obtain ⟨nm, pr, on, ife, dos⟩ := r
  simp only at g1 g2 g3 g4 g5 g6 ⊢
  have ova := op_names_Valid nm (by omega)
  have ock := op_expr_Check ife (sh_md ife 220 30 g4)
  have lon : (on.map tgV).length = on.length := List.length_map _
  have ldo : (dos.map spV).length = dos.length := List.length_map _
  have hon := fun e bx => loop_pon _ rfl on (by omega) (fun t ht => hT t (g5 t ht)) on.length 0 e bx (by omega)
  have hdo := fun e bx => loop_pdo _ rfl dos (by omega) (fun s hs => op_print_step s (g6 s hs)) dos.length 0 e bx (by omega)
  rw [List.drop_zero] at hon hdo
  generalize valB nm = va at *
  generalize ckT ife = ck at *
  generalize fsE tgE on = f1 at *
  generalize fsE spE dos = f2 at *
  unfold rlV trC
  obtain ⟨zk, zn, zm, znm, zv, zkey, zkids⟩ := ife
  unfold trV at ock ⊢
  simp only [SA, List.cons_append, List.nil_append] at ock ⊢
  generalize trVs zkids = zs at *
  generalize on.map tgV = xs at *
  generalize dos.map spV = ys at *
  rw [callL_enter (fn := Tryd.f7) (c := Tryd.f7.body.getD .skip) rfl rfl fat_print_Check rfl ok_print_Check (Nat.le_of_ble_eq_true rfl)]
  obtain ⟨tu, htu⟩ := VLs
  obtain ⟨tr, htr⟩ := TRs
  obtain ⟨tk, hky⟩ := KYs
  obtain ⟨te, hev1⟩ := EVs
  obtain ⟨tg, htg⟩ := TG_s
  obtain ⟨tp, hsp⟩ := SPs
  obtain ⟨tl, hrl⟩ := RLs
  cases va with
  | false =>
    rw [if_pos rfl]
    obtain ⟨ev, eo, so, co, ⟨hev, hco⟩, R⟩ := RULES CC; rw [← hev]
    rw [← hco] at ova ock
    simp only [fpart, part', Tryd.f7, Option.getD]
    simp (maxSteps := 5000000) only [SA, SB, SD, R, guardAt, binP, intP, indexAddrP, elemsOf, readCells, lenP, lenAt, resultsP, resultP, oneOr, reduceCtorEq, reduceIte, Nat.reduceEqDiff, Nat.reduceAdd, Nat.zero_add, Nat.reduceMul, Nat.reduceLT, Nat.reduceLeDiff, Int.reduceLT, Int.reduceNeg, Int.reduceLE, appendP, appendAt, letGo, setLoc, locVal, Int.reduceToNat, boxCells, und, TG, SE, SC, List.getElem?_cons_zero, List.getElem?_cons_succ, List.take_nil, List.nil_append, unP, htu, htr, hky, hev1, htg, hsp, hrl, loadR, loadP, lay, List.take_succ_cons, List.take_zero, List.drop_nil, List.filter_nil, List.cons_append, Int.reduceBEq, Int.reduceBNe, Int.reduceGT, Int.reduceGE, Bool.not_true, Bool.not_false, ova, ock, lon, ldo, lon]
    exact ⟨_, rfl⟩
  | true =>
    by_cases c0 : pr < 0
    · rw [if_neg (by simp), if_pos (by omega)]
      obtain ⟨ev, eo, so, co, ⟨hev, hco⟩, R⟩ := RULES CC; rw [← hev]
      rw [← hco] at ova ock
      simp only [fpart, part', Tryd.f7, Option.getD]
      simp (maxSteps := 5000000) only [SA, SB, SD, R, guardAt, binP, intP, indexAddrP, elemsOf, readCells, lenP, lenAt, resultsP, resultP, oneOr, reduceCtorEq, reduceIte, Nat.reduceEqDiff, Nat.reduceAdd, Nat.zero_add, Nat.reduceMul, Nat.reduceLT, Nat.reduceLeDiff, Int.reduceLT, Int.reduceNeg, Int.reduceLE, appendP, appendAt, letGo, setLoc, locVal, Int.reduceToNat, boxCells, und, TG, SE, SC, List.getElem?_cons_zero, List.getElem?_cons_succ, List.take_nil, List.nil_append, unP, htu, htr, hky, hev1, htg, hsp, hrl, loadR, loadP, lay, List.take_succ_cons, List.take_zero, List.drop_nil, List.filter_nil, List.cons_append, Int.reduceBEq, Int.reduceBNe, Int.reduceGT, Int.reduceGE, Bool.not_true, Bool.not_false, ova, ock, lon, ldo, lon, c0]
      exact ⟨_, rfl⟩
    by_cases c1 : pr > 100
    · rw [if_neg (by simp), if_pos (by omega)]
      obtain ⟨ev, eo, so, co, ⟨hev, hco⟩, R⟩ := RULES CC; rw [← hev]
      rw [← hco] at ova ock
      simp only [fpart, part', Tryd.f7, Option.getD]
      simp (maxSteps := 5000000) only [SA, SB, SD, R, guardAt, binP, intP, indexAddrP, elemsOf, readCells, lenP, lenAt, resultsP, resultP, oneOr, reduceCtorEq, reduceIte, Nat.reduceEqDiff, Nat.reduceAdd, Nat.zero_add, Nat.reduceMul, Nat.reduceLT, Nat.reduceLeDiff, Int.reduceLT, Int.reduceNeg, Int.reduceLE, appendP, appendAt, letGo, setLoc, locVal, Int.reduceToNat, boxCells, und, TG, SE, SC, List.getElem?_cons_zero, List.getElem?_cons_succ, List.take_nil, List.nil_append, unP, htu, htr, hky, hev1, htg, hsp, hrl, loadR, loadP, lay, List.take_succ_cons, List.take_zero, List.drop_nil, List.filter_nil, List.cons_append, Int.reduceBEq, Int.reduceBNe, Int.reduceGT, Int.reduceGE, Bool.not_true, Bool.not_false, ova, ock, lon, ldo, lon, c0, c1]
      exact ⟨_, rfl⟩
    by_cases d0 : (on.length : Int) < 1
    · rw [if_neg (by simp), if_neg (by omega), if_pos (by omega)]
      obtain ⟨ev, eo, so, co, ⟨hev, hco⟩, R⟩ := RULES CC; rw [← hev]
      rw [← hco] at ova ock
      simp only [fpart, part', Tryd.f7, Option.getD]
      simp (maxSteps := 5000000) only [SA, SB, SD, R, guardAt, binP, intP, indexAddrP, elemsOf, readCells, lenP, lenAt, resultsP, resultP, oneOr, reduceCtorEq, reduceIte, Nat.reduceEqDiff, Nat.reduceAdd, Nat.zero_add, Nat.reduceMul, Nat.reduceLT, Nat.reduceLeDiff, Int.reduceLT, Int.reduceNeg, Int.reduceLE, appendP, appendAt, letGo, setLoc, locVal, Int.reduceToNat, boxCells, und, TG, SE, SC, List.getElem?_cons_zero, List.getElem?_cons_succ, List.take_nil, List.nil_append, unP, htu, htr, hky, hev1, htg, hsp, hrl, loadR, loadP, lay, List.take_succ_cons, List.take_zero, List.drop_nil, List.filter_nil, List.cons_append, Int.reduceBEq, Int.reduceBNe, Int.reduceGT, Int.reduceGE, Bool.not_true, Bool.not_false, ova, ock, lon, ldo, lon, c0, c1, d0]
      exact ⟨_, rfl⟩
    by_cases d1 : (on.length : Int) > 8
    · rw [if_neg (by simp), if_neg (by omega), if_pos (by omega)]
      obtain ⟨ev, eo, so, co, ⟨hev, hco⟩, R⟩ := RULES CC; rw [← hev]
      rw [← hco] at ova ock
      simp only [fpart, part', Tryd.f7, Option.getD]
      simp (maxSteps := 5000000) only [SA, SB, SD, R, guardAt, binP, intP, indexAddrP, elemsOf, readCells, lenP, lenAt, resultsP, resultP, oneOr, reduceCtorEq, reduceIte, Nat.reduceEqDiff, Nat.reduceAdd, Nat.zero_add, Nat.reduceMul, Nat.reduceLT, Nat.reduceLeDiff, Int.reduceLT, Int.reduceNeg, Int.reduceLE, appendP, appendAt, letGo, setLoc, locVal, Int.reduceToNat, boxCells, und, TG, SE, SC, List.getElem?_cons_zero, List.getElem?_cons_succ, List.take_nil, List.nil_append, unP, htu, htr, hky, hev1, htg, hsp, hrl, loadR, loadP, lay, List.take_succ_cons, List.take_zero, List.drop_nil, List.filter_nil, List.cons_append, Int.reduceBEq, Int.reduceBNe, Int.reduceGT, Int.reduceGE, Bool.not_true, Bool.not_false, ova, ock, lon, ldo, lon, c0, c1, d0, d1]
      exact ⟨_, rfl⟩
    by_cases d2 : (dos.length : Int) < 1
    · rw [if_neg (by simp), if_neg (by omega), if_pos (by omega)]
      obtain ⟨ev, eo, so, co, ⟨hev, hco⟩, R⟩ := RULES CC; rw [← hev]
      rw [← hco] at ova ock
      simp only [fpart, part', Tryd.f7, Option.getD]
      simp (maxSteps := 5000000) only [SA, SB, SD, R, guardAt, binP, intP, indexAddrP, elemsOf, readCells, lenP, lenAt, resultsP, resultP, oneOr, reduceCtorEq, reduceIte, Nat.reduceEqDiff, Nat.reduceAdd, Nat.zero_add, Nat.reduceMul, Nat.reduceLT, Nat.reduceLeDiff, Int.reduceLT, Int.reduceNeg, Int.reduceLE, appendP, appendAt, letGo, setLoc, locVal, Int.reduceToNat, boxCells, und, TG, SE, SC, List.getElem?_cons_zero, List.getElem?_cons_succ, List.take_nil, List.nil_append, unP, htu, htr, hky, hev1, htg, hsp, hrl, loadR, loadP, lay, List.take_succ_cons, List.take_zero, List.drop_nil, List.filter_nil, List.cons_append, Int.reduceBEq, Int.reduceBNe, Int.reduceGT, Int.reduceGE, Bool.not_true, Bool.not_false, ova, ock, lon, ldo, lon, c0, c1, d0, d1, d2]
      exact ⟨_, rfl⟩
    by_cases d3 : (dos.length : Int) > 8
    · rw [if_neg (by simp), if_neg (by omega), if_pos (by omega)]
      obtain ⟨ev, eo, so, co, ⟨hev, hco⟩, R⟩ := RULES CC; rw [← hev]
      rw [← hco] at ova ock
      simp only [fpart, part', Tryd.f7, Option.getD]
      simp (maxSteps := 5000000) only [SA, SB, SD, R, guardAt, binP, intP, indexAddrP, elemsOf, readCells, lenP, lenAt, resultsP, resultP, oneOr, reduceCtorEq, reduceIte, Nat.reduceEqDiff, Nat.reduceAdd, Nat.zero_add, Nat.reduceMul, Nat.reduceLT, Nat.reduceLeDiff, Int.reduceLT, Int.reduceNeg, Int.reduceLE, appendP, appendAt, letGo, setLoc, locVal, Int.reduceToNat, boxCells, und, TG, SE, SC, List.getElem?_cons_zero, List.getElem?_cons_succ, List.take_nil, List.nil_append, unP, htu, htr, hky, hev1, htg, hsp, hrl, loadR, loadP, lay, List.take_succ_cons, List.take_zero, List.drop_nil, List.filter_nil, List.cons_append, Int.reduceBEq, Int.reduceBNe, Int.reduceGT, Int.reduceGE, Bool.not_true, Bool.not_false, ova, ock, lon, ldo, lon, c0, c1, d0, d1, d2, d3]
      exact ⟨_, rfl⟩
    rw [if_neg (by simp), if_neg (by omega), if_neg (by omega)]
    obtain ⟨ev, eo, so, co, ⟨hev, hco⟩, R⟩ := RULES CC; rw [← hev]
    rw [← hco] at ova ock
    rw [← hev] at hon hdo
    simp only [fpart, part', Tryd.f7, Option.getD] at hon hdo ⊢
    simp (maxSteps := 5000000) only [SA, SB, SD, R, guardAt, binP, intP, indexAddrP, elemsOf, readCells, lenP, lenAt, resultsP, resultP, oneOr, reduceCtorEq, reduceIte, Nat.reduceEqDiff, Nat.reduceAdd, Nat.zero_add, Nat.reduceMul, Nat.reduceLT, Nat.reduceLeDiff, Int.reduceLT, Int.reduceNeg, Int.reduceLE, appendP, appendAt, letGo, setLoc, locVal, Int.reduceToNat, boxCells, und, TG, SE, SC, List.getElem?_cons_zero, List.getElem?_cons_succ, List.take_nil, List.nil_append, unP, htu, htr, hky, hev1, htg, hsp, hrl, loadR, loadP, lay, List.take_succ_cons, List.take_zero, List.drop_nil, List.filter_nil, List.cons_append, Int.reduceBEq, Int.reduceBNe, Int.reduceGT, Int.reduceGE, Bool.not_true, Bool.not_false, ova, ock, lon, ldo, lon, c0, c1, d0, d1, d2, d3]
    generalize hE : ev (Code.loop _) _ = z
    have hP : PFe 0 [.cells 32 [.str nm, .int .i64 pr, .sl xs, .int .i64 zk, .int .i64 zn, .int .i64 zm, .str znm, .int .i64 zv.1, .int .i64 zv.2.1, .str zv.2.2, .int .i64 zkey.1, .str zkey.2.1, .str zkey.2.2, .sl zs, .sl ys]] f1 z := by
      rw [← hE]
      refine hon _ _ ?_ ?_ ?_ ?_
      all_goals first | (simp (maxSteps := 5000000) only [SA, SB, SD, R, guardAt, binP, intP, indexAddrP, elemsOf, readCells, lenP, lenAt, resultsP, resultP, oneOr, reduceCtorEq, reduceIte, Nat.reduceEqDiff, Nat.reduceAdd, Nat.zero_add, Nat.reduceMul, Nat.reduceLT, Nat.reduceLeDiff, Int.reduceLT, Int.reduceNeg, Int.reduceLE, appendP, appendAt, letGo, setLoc, locVal, Int.reduceToNat, boxCells, und]; done) | (simp (maxSteps := 5000000) only [SA, SB, SD, R, guardAt, binP, intP, indexAddrP, elemsOf, readCells, lenP, lenAt, resultsP, resultP, oneOr, reduceCtorEq, reduceIte, Nat.reduceEqDiff, Nat.reduceAdd, Nat.zero_add, Nat.reduceMul, Nat.reduceLT, Nat.reduceLeDiff, Int.reduceLT, Int.reduceNeg, Int.reduceLE, appendP, appendAt, letGo, setLoc, locVal, Int.reduceToNat, boxCells, und]; rfl)
    obtain ⟨e', ex, ⟨hv, he, q1⟩ | ⟨hv, he, q2⟩⟩ := hP
    · subst he
      subst hv
      rw [if_neg (by simp)]
      by_cases k1 : ck = 0
      · subst k1
        rw [if_neg (by simp)]
        simp (maxSteps := 5000000) only [SA, SB, SD, R, guardAt, binP, intP, indexAddrP, elemsOf, readCells, lenP, lenAt, resultsP, resultP, oneOr, reduceCtorEq, reduceIte, Nat.reduceEqDiff, Nat.reduceAdd, Nat.zero_add, Nat.reduceMul, Nat.reduceLT, Nat.reduceLeDiff, Int.reduceLT, Int.reduceNeg, Int.reduceLE, appendP, appendAt, letGo, setLoc, locVal, Int.reduceToNat, boxCells, und, TG, SE, SC, List.getElem?_cons_zero, List.getElem?_cons_succ, List.take_nil, List.nil_append, unP, htu, htr, hky, hev1, htg, hsp, hrl, loadR, loadP, lay, List.take_succ_cons, List.take_zero, List.drop_nil, List.filter_nil, List.cons_append, Int.reduceBEq, Int.reduceBNe, Int.reduceGT, Int.reduceGE, Bool.not_true, Bool.not_false, q1, ldo, ock]
        generalize hE2 : ev (Code.loop _) _ = z2
        have hP2 : PFe 2 (.cells 32 [.str nm, .int .i64 pr, .sl xs, .int .i64 zk, .int .i64 zn, .int .i64 zm, .str znm, .int .i64 zv.1, .int .i64 zv.2.1, .str zv.2.2, .int .i64 zkey.1, .str zkey.2.1, .str zkey.2.2, .sl zs, .sl ys] :: ex) f2 z2 := by
          rw [← hE2]
          refine hdo _ _ ?_ ?_ ?_ ?_
          all_goals first | (simp (maxSteps := 5000000) only [SA, SB, SD, R, guardAt, binP, intP, indexAddrP, elemsOf, readCells, lenP, lenAt, resultsP, resultP, oneOr, reduceCtorEq, reduceIte, Nat.reduceEqDiff, Nat.reduceAdd, Nat.zero_add, Nat.reduceMul, Nat.reduceLT, Nat.reduceLeDiff, Int.reduceLT, Int.reduceNeg, Int.reduceLE, appendP, appendAt, letGo, setLoc, locVal, Int.reduceToNat, boxCells, und, q1]; done) | (simp (maxSteps := 5000000) only [SA, SB, SD, R, guardAt, binP, intP, indexAddrP, elemsOf, readCells, lenP, lenAt, resultsP, resultP, oneOr, reduceCtorEq, reduceIte, Nat.reduceEqDiff, Nat.reduceAdd, Nat.zero_add, Nat.reduceMul, Nat.reduceLT, Nat.reduceLeDiff, Int.reduceLT, Int.reduceNeg, Int.reduceLE, appendP, appendAt, letGo, setLoc, locVal, Int.reduceToNat, boxCells, und, q1]; rfl)
        obtain ⟨e2, ex2, ⟨hv2, he2, q3⟩ | ⟨hv2, he2, q4⟩⟩ := hP2
        · subst he2
          subst hv2
          simp (maxSteps := 5000000) only [SA, SB, SD, R, guardAt, binP, intP, indexAddrP, elemsOf, readCells, lenP, lenAt, resultsP, resultP, oneOr, reduceCtorEq, reduceIte, Nat.reduceEqDiff, Nat.reduceAdd, Nat.zero_add, Nat.reduceMul, Nat.reduceLT, Nat.reduceLeDiff, Int.reduceLT, Int.reduceNeg, Int.reduceLE, appendP, appendAt, letGo, setLoc, locVal, Int.reduceToNat, boxCells, und, TG, SE]
          exact ⟨_, rfl⟩
        · subst he2
          simp (maxSteps := 5000000) only [SA, SB, SD, R, guardAt, binP, intP, indexAddrP, elemsOf, readCells, lenP, lenAt, resultsP, resultP, oneOr, reduceCtorEq, reduceIte, Nat.reduceEqDiff, Nat.reduceAdd, Nat.zero_add, Nat.reduceMul, Nat.reduceLT, Nat.reduceLeDiff, Int.reduceLT, Int.reduceNeg, Int.reduceLE, appendP, appendAt, letGo, setLoc, locVal, Int.reduceToNat, boxCells, und, TG, SE, q4]
          exact ⟨_, rfl⟩
      · have k1p : (ck != 0) = true := by simpa using k1
        rw [if_pos k1]
        simp (maxSteps := 5000000) only [SA, SB, SD, R, guardAt, binP, intP, indexAddrP, elemsOf, readCells, lenP, lenAt, resultsP, resultP, oneOr, reduceCtorEq, reduceIte, Nat.reduceEqDiff, Nat.reduceAdd, Nat.zero_add, Nat.reduceMul, Nat.reduceLT, Nat.reduceLeDiff, Int.reduceLT, Int.reduceNeg, Int.reduceLE, appendP, appendAt, letGo, setLoc, locVal, Int.reduceToNat, boxCells, und, TG, SE, SC, List.getElem?_cons_zero, List.getElem?_cons_succ, List.take_nil, List.nil_append, unP, htu, htr, hky, hev1, htg, hsp, hrl, loadR, loadP, lay, List.take_succ_cons, List.take_zero, List.drop_nil, List.filter_nil, List.cons_append, Int.reduceBEq, Int.reduceBNe, Int.reduceGT, Int.reduceGE, Bool.not_true, Bool.not_false, q1, ldo, ock, k1p]
        exact ⟨_, rfl⟩
    · subst he
      rw [if_pos hv]
      simp (maxSteps := 5000000) only [SA, SB, SD, R, guardAt, binP, intP, indexAddrP, elemsOf, readCells, lenP, lenAt, resultsP, resultP, oneOr, reduceCtorEq, reduceIte, Nat.reduceEqDiff, Nat.reduceAdd, Nat.zero_add, Nat.reduceMul, Nat.reduceLT, Nat.reduceLeDiff, Int.reduceLT, Int.reduceNeg, Int.reduceLE, appendP, appendAt, letGo, setLoc, locVal, Int.reduceToNat, boxCells, und, TG, SE, q2]
      exact ⟨_, rfl⟩
set_option maxHeartbeats 4000000
theorem ok_print_trigger : fnOK CC Tryd.f18 (Tryd.f18.body.getD .skip) = true := by kernel_rfl
theorem fat_print_trigger : CC.P.funcs[18]? = some Tryd.f18 := by kernel_rfl
theorem call_print_trigger (hS : ∀ t : Tg, ∀ bx, callOp CC (callL CC) 30 [tgV t] bx = some (.ret (.bool (!(tsT t))), bx)) (t : Tg) (hp : plTg t = true) : ∃ bx, callL CC 18 [tgV t] [] = some (.ret (.int .i64 (tgE t)), bx) := by
  have hl := plTg_len hp
  have osp := hS t
  clear hS
  unfold tgE
  obtain ⟨k, key, ev, nm, n, m⟩ := t
  obtain ⟨d, c, a⟩ := key
  obtain ⟨d', c', a'⟩ := ev
  obtain ⟨l1, l2, l3, l4, l5⟩ := hl
  simp only at l1 l2 l3 l4 l5
  have on1 := op_print_named d c a (by omega) (by omega)
  have on2 := op_print_named d' c' a' (by omega) (by omega)
  have v5 := op_names_Valid nm (by omega)
  have hn : strP .neq nm [] = some (.bool (!(nm == []))) := rfl
  obtain ⟨ne, hne⟩ : ∃ b, b = (nm == []) := ⟨_, rfl⟩
  have hne' : nm = [] ↔ ne = true := by rw [hne]; simp
  rw [← hne] at hn
  unfold tgV at osp ⊢
  simp only at osp ⊢
  generalize tsT ⟨k, (d, c, a), (d', c', a'), nm, n, m⟩ = ts at *
  rw [callL_enter (fn := Tryd.f18) (c := Tryd.f18.body.getD .skip) rfl rfl fat_print_trigger rfl ok_print_trigger (Nat.le_of_ble_eq_true rfl)]
  obtain ⟨tu, htu⟩ := VLs
  obtain ⟨tr, htr⟩ := TRs
  obtain ⟨tk, hky⟩ := KYs
  obtain ⟨te, hev1⟩ := EVs
  obtain ⟨tg, htg⟩ := TG_s
  obtain ⟨tp, hsp⟩ := SPs
  obtain ⟨tl, hrl⟩ := RLs
  generalize nmE d c a = q1 at *
  generalize nmE d' c' a' = q2 at *
  generalize valB nm = p5 at *
  by_cases c1 : k < 1
  · rw [if_pos (by omega)]
    obtain ⟨ev, eo, so, co, ⟨hev, hco⟩, R⟩ := RULES CC; rw [← hev]
    rw [← hco] at osp on1 on2 v5
    simp only [fpart, part', Tryd.f18, Option.getD]
    simp (maxSteps := 5000000) only [SA, SB, SD, R, guardAt, binP, intP, indexAddrP, elemsOf, readCells, lenP, lenAt, resultsP, resultP, oneOr, reduceCtorEq, reduceIte, Nat.reduceEqDiff, Nat.reduceAdd, Nat.zero_add, Nat.reduceMul, Nat.reduceLT, Nat.reduceLeDiff, Int.reduceLT, Int.reduceNeg, Int.reduceLE, appendP, appendAt, letGo, setLoc, locVal, Int.reduceToNat, boxCells, und, TG, SE, SC, List.getElem?_cons_zero, List.getElem?_cons_succ, unP, htu, htr, hky, hev1, htg, hsp, hrl, loadR, loadP, lay, List.take_succ_cons, List.take_zero, List.drop_nil, List.filter_nil, List.cons_append, Int.reduceBEq, Int.reduceBNe, Int.reduceGT, Int.reduceLT, Int.reduceGE, Bool.not_true, Bool.not_false, osp, on1, on2, v5, hn, c1]
    exact ⟨_, rfl⟩
  by_cases c2 : k > 6
  · rw [if_pos (by omega)]
    obtain ⟨ev, eo, so, co, ⟨hev, hco⟩, R⟩ := RULES CC; rw [← hev]
    rw [← hco] at osp on1 on2 v5
    simp only [fpart, part', Tryd.f18, Option.getD]
    simp (maxSteps := 5000000) only [SA, SB, SD, R, guardAt, binP, intP, indexAddrP, elemsOf, readCells, lenP, lenAt, resultsP, resultP, oneOr, reduceCtorEq, reduceIte, Nat.reduceEqDiff, Nat.reduceAdd, Nat.zero_add, Nat.reduceMul, Nat.reduceLT, Nat.reduceLeDiff, Int.reduceLT, Int.reduceNeg, Int.reduceLE, appendP, appendAt, letGo, setLoc, locVal, Int.reduceToNat, boxCells, und, TG, SE, SC, List.getElem?_cons_zero, List.getElem?_cons_succ, unP, htu, htr, hky, hev1, htg, hsp, hrl, loadR, loadP, lay, List.take_succ_cons, List.take_zero, List.drop_nil, List.filter_nil, List.cons_append, Int.reduceBEq, Int.reduceBNe, Int.reduceGT, Int.reduceLT, Int.reduceGE, Bool.not_true, Bool.not_false, osp, on1, on2, v5, hn, c1, c2]
    exact ⟨_, rfl⟩
  cases ts with
  | true =>
    rw [if_neg (by omega), if_pos rfl]
    obtain ⟨ev, eo, so, co, ⟨hev, hco⟩, R⟩ := RULES CC; rw [← hev]
    rw [← hco] at osp on1 on2 v5
    simp only [fpart, part', Tryd.f18, Option.getD]
    simp (maxSteps := 5000000) only [SA, SB, SD, R, guardAt, binP, intP, indexAddrP, elemsOf, readCells, lenP, lenAt, resultsP, resultP, oneOr, reduceCtorEq, reduceIte, Nat.reduceEqDiff, Nat.reduceAdd, Nat.zero_add, Nat.reduceMul, Nat.reduceLT, Nat.reduceLeDiff, Int.reduceLT, Int.reduceNeg, Int.reduceLE, appendP, appendAt, letGo, setLoc, locVal, Int.reduceToNat, boxCells, und, TG, SE, SC, List.getElem?_cons_zero, List.getElem?_cons_succ, unP, htu, htr, hky, hev1, htg, hsp, hrl, loadR, loadP, lay, List.take_succ_cons, List.take_zero, List.drop_nil, List.filter_nil, List.cons_append, Int.reduceBEq, Int.reduceBNe, Int.reduceGT, Int.reduceLT, Int.reduceGE, Bool.not_true, Bool.not_false, osp, on1, on2, v5, hn, c1, c2]
    exact ⟨_, rfl⟩
  | false =>
    by_cases k1 : k = 1
    · subst k1
      rw [if_neg (by omega), if_neg (by simp), if_pos rfl]
      obtain ⟨ev, eo, so, co, ⟨hev, hco⟩, R⟩ := RULES CC; rw [← hev]
      rw [← hco] at osp on1 on2 v5
      simp only [fpart, part', Tryd.f18, Option.getD]
      simp (maxSteps := 5000000) only [SA, SB, SD, R, guardAt, binP, intP, indexAddrP, elemsOf, readCells, lenP, lenAt, resultsP, resultP, oneOr, reduceCtorEq, reduceIte, Nat.reduceEqDiff, Nat.reduceAdd, Nat.zero_add, Nat.reduceMul, Nat.reduceLT, Nat.reduceLeDiff, Int.reduceLT, Int.reduceNeg, Int.reduceLE, appendP, appendAt, letGo, setLoc, locVal, Int.reduceToNat, boxCells, und, TG, SE, SC, List.getElem?_cons_zero, List.getElem?_cons_succ, unP, htu, htr, hky, hev1, htg, hsp, hrl, loadR, loadP, lay, List.take_succ_cons, List.take_zero, List.drop_nil, List.filter_nil, List.cons_append, Int.reduceBEq, Int.reduceBNe, Int.reduceGT, Int.reduceLT, Int.reduceGE, Bool.not_true, Bool.not_false, osp, on1, on2, v5, hn, c1, c2]
      exact ⟨_, rfl⟩
    by_cases k2 : k = 2
    · subst k2
      rw [if_neg (by omega), if_neg (by simp), if_neg (by omega), if_pos rfl]
      obtain ⟨ev, eo, so, co, ⟨hev, hco⟩, R⟩ := RULES CC; rw [← hev]
      rw [← hco] at osp on1 on2 v5
      simp only [fpart, part', Tryd.f18, Option.getD]
      simp (maxSteps := 5000000) only [SA, SB, SD, R, guardAt, binP, intP, indexAddrP, elemsOf, readCells, lenP, lenAt, resultsP, resultP, oneOr, reduceCtorEq, reduceIte, Nat.reduceEqDiff, Nat.reduceAdd, Nat.zero_add, Nat.reduceMul, Nat.reduceLT, Nat.reduceLeDiff, Int.reduceLT, Int.reduceNeg, Int.reduceLE, appendP, appendAt, letGo, setLoc, locVal, Int.reduceToNat, boxCells, und, TG, SE, SC, List.getElem?_cons_zero, List.getElem?_cons_succ, unP, htu, htr, hky, hev1, htg, hsp, hrl, loadR, loadP, lay, List.take_succ_cons, List.take_zero, List.drop_nil, List.filter_nil, List.cons_append, Int.reduceBEq, Int.reduceBNe, Int.reduceGT, Int.reduceLT, Int.reduceGE, Bool.not_true, Bool.not_false, osp, on1, on2, v5, hn, c1, c2]
      exact ⟨_, rfl⟩
    by_cases k3 : k = 3
    · subst k3
      by_cases e0 : n < 0
      · rw [if_neg (by omega), if_neg (by simp), if_neg (by omega), if_neg (by omega), if_pos rfl, if_neg (by omega)]
        obtain ⟨ev, eo, so, co, ⟨hev, hco⟩, R⟩ := RULES CC; rw [← hev]
        rw [← hco] at osp on1 on2 v5
        simp only [fpart, part', Tryd.f18, Option.getD]
        simp (maxSteps := 5000000) only [SA, SB, SD, R, guardAt, binP, intP, indexAddrP, elemsOf, readCells, lenP, lenAt, resultsP, resultP, oneOr, reduceCtorEq, reduceIte, Nat.reduceEqDiff, Nat.reduceAdd, Nat.zero_add, Nat.reduceMul, Nat.reduceLT, Nat.reduceLeDiff, Int.reduceLT, Int.reduceNeg, Int.reduceLE, appendP, appendAt, letGo, setLoc, locVal, Int.reduceToNat, boxCells, und, TG, SE, SC, List.getElem?_cons_zero, List.getElem?_cons_succ, unP, htu, htr, hky, hev1, htg, hsp, hrl, loadR, loadP, lay, List.take_succ_cons, List.take_zero, List.drop_nil, List.filter_nil, List.cons_append, Int.reduceBEq, Int.reduceBNe, Int.reduceGT, Int.reduceLT, Int.reduceGE, Bool.not_true, Bool.not_false, osp, on1, on2, v5, hn, c1, c2, e0]
        exact ⟨_, rfl⟩
      by_cases e1 : n ≥ 1440
      · rw [if_neg (by omega), if_neg (by simp), if_neg (by omega), if_neg (by omega), if_pos rfl, if_neg (by omega)]
        obtain ⟨ev, eo, so, co, ⟨hev, hco⟩, R⟩ := RULES CC; rw [← hev]
        rw [← hco] at osp on1 on2 v5
        simp only [fpart, part', Tryd.f18, Option.getD]
        simp (maxSteps := 5000000) only [SA, SB, SD, R, guardAt, binP, intP, indexAddrP, elemsOf, readCells, lenP, lenAt, resultsP, resultP, oneOr, reduceCtorEq, reduceIte, Nat.reduceEqDiff, Nat.reduceAdd, Nat.zero_add, Nat.reduceMul, Nat.reduceLT, Nat.reduceLeDiff, Int.reduceLT, Int.reduceNeg, Int.reduceLE, appendP, appendAt, letGo, setLoc, locVal, Int.reduceToNat, boxCells, und, TG, SE, SC, List.getElem?_cons_zero, List.getElem?_cons_succ, unP, htu, htr, hky, hev1, htg, hsp, hrl, loadR, loadP, lay, List.take_succ_cons, List.take_zero, List.drop_nil, List.filter_nil, List.cons_append, Int.reduceBEq, Int.reduceBNe, Int.reduceGT, Int.reduceLT, Int.reduceGE, Bool.not_true, Bool.not_false, osp, on1, on2, v5, hn, c1, c2, e0, e1]
        exact ⟨_, rfl⟩
      by_cases e2 : m < 1
      · rw [if_neg (by omega), if_neg (by simp), if_neg (by omega), if_neg (by omega), if_pos rfl, if_neg (by omega)]
        obtain ⟨ev, eo, so, co, ⟨hev, hco⟩, R⟩ := RULES CC; rw [← hev]
        rw [← hco] at osp on1 on2 v5
        simp only [fpart, part', Tryd.f18, Option.getD]
        simp (maxSteps := 5000000) only [SA, SB, SD, R, guardAt, binP, intP, indexAddrP, elemsOf, readCells, lenP, lenAt, resultsP, resultP, oneOr, reduceCtorEq, reduceIte, Nat.reduceEqDiff, Nat.reduceAdd, Nat.zero_add, Nat.reduceMul, Nat.reduceLT, Nat.reduceLeDiff, Int.reduceLT, Int.reduceNeg, Int.reduceLE, appendP, appendAt, letGo, setLoc, locVal, Int.reduceToNat, boxCells, und, TG, SE, SC, List.getElem?_cons_zero, List.getElem?_cons_succ, unP, htu, htr, hky, hev1, htg, hsp, hrl, loadR, loadP, lay, List.take_succ_cons, List.take_zero, List.drop_nil, List.filter_nil, List.cons_append, Int.reduceBEq, Int.reduceBNe, Int.reduceGT, Int.reduceLT, Int.reduceGE, Bool.not_true, Bool.not_false, osp, on1, on2, v5, hn, c1, c2, e0, e1, e2]
        exact ⟨_, rfl⟩
      by_cases e3 : m > 127
      · rw [if_neg (by omega), if_neg (by simp), if_neg (by omega), if_neg (by omega), if_pos rfl, if_neg (by omega)]
        obtain ⟨ev, eo, so, co, ⟨hev, hco⟩, R⟩ := RULES CC; rw [← hev]
        rw [← hco] at osp on1 on2 v5
        simp only [fpart, part', Tryd.f18, Option.getD]
        simp (maxSteps := 5000000) only [SA, SB, SD, R, guardAt, binP, intP, indexAddrP, elemsOf, readCells, lenP, lenAt, resultsP, resultP, oneOr, reduceCtorEq, reduceIte, Nat.reduceEqDiff, Nat.reduceAdd, Nat.zero_add, Nat.reduceMul, Nat.reduceLT, Nat.reduceLeDiff, Int.reduceLT, Int.reduceNeg, Int.reduceLE, appendP, appendAt, letGo, setLoc, locVal, Int.reduceToNat, boxCells, und, TG, SE, SC, List.getElem?_cons_zero, List.getElem?_cons_succ, unP, htu, htr, hky, hev1, htg, hsp, hrl, loadR, loadP, lay, List.take_succ_cons, List.take_zero, List.drop_nil, List.filter_nil, List.cons_append, Int.reduceBEq, Int.reduceBNe, Int.reduceGT, Int.reduceLT, Int.reduceGE, Bool.not_true, Bool.not_false, osp, on1, on2, v5, hn, c1, c2, e0, e1, e2, e3]
        exact ⟨_, rfl⟩
      rw [if_neg (by omega), if_neg (by simp), if_neg (by omega), if_neg (by omega), if_pos rfl, if_pos (by omega)]
      obtain ⟨ev, eo, so, co, ⟨hev, hco⟩, R⟩ := RULES CC; rw [← hev]
      rw [← hco] at osp on1 on2 v5
      simp only [fpart, part', Tryd.f18, Option.getD]
      simp (maxSteps := 5000000) only [SA, SB, SD, R, guardAt, binP, intP, indexAddrP, elemsOf, readCells, lenP, lenAt, resultsP, resultP, oneOr, reduceCtorEq, reduceIte, Nat.reduceEqDiff, Nat.reduceAdd, Nat.zero_add, Nat.reduceMul, Nat.reduceLT, Nat.reduceLeDiff, Int.reduceLT, Int.reduceNeg, Int.reduceLE, appendP, appendAt, letGo, setLoc, locVal, Int.reduceToNat, boxCells, und, TG, SE, SC, List.getElem?_cons_zero, List.getElem?_cons_succ, unP, htu, htr, hky, hev1, htg, hsp, hrl, loadR, loadP, lay, List.take_succ_cons, List.take_zero, List.drop_nil, List.filter_nil, List.cons_append, Int.reduceBEq, Int.reduceBNe, Int.reduceGT, Int.reduceLT, Int.reduceGE, Bool.not_true, Bool.not_false, osp, on1, on2, v5, hn, c1, c2, e0, e1, e2, e3]
      exact ⟨_, rfl⟩
    by_cases k4 : k = 4
    · subst k4
      cases ne with
      | true =>
        rw [if_neg (by omega), if_neg (by simp), if_neg (by omega), if_neg (by omega), if_neg (by omega), if_pos rfl, if_pos (.inl (hne'.2 rfl))]
        obtain ⟨ev, eo, so, co, ⟨hev, hco⟩, R⟩ := RULES CC; rw [← hev]
        rw [← hco] at osp on1 on2 v5
        simp only [fpart, part', Tryd.f18, Option.getD]
        simp (maxSteps := 5000000) only [SA, SB, SD, R, guardAt, binP, intP, indexAddrP, elemsOf, readCells, lenP, lenAt, resultsP, resultP, oneOr, reduceCtorEq, reduceIte, Nat.reduceEqDiff, Nat.reduceAdd, Nat.zero_add, Nat.reduceMul, Nat.reduceLT, Nat.reduceLeDiff, Int.reduceLT, Int.reduceNeg, Int.reduceLE, appendP, appendAt, letGo, setLoc, locVal, Int.reduceToNat, boxCells, und, TG, SE, SC, List.getElem?_cons_zero, List.getElem?_cons_succ, unP, htu, htr, hky, hev1, htg, hsp, hrl, loadR, loadP, lay, List.take_succ_cons, List.take_zero, List.drop_nil, List.filter_nil, List.cons_append, Int.reduceBEq, Int.reduceBNe, Int.reduceGT, Int.reduceLT, Int.reduceGE, Bool.not_true, Bool.not_false, osp, on1, on2, v5, hn, c1, c2]
        exact ⟨_, rfl⟩
      | false =>
        cases p5 with
        | true =>
          rw [if_neg (by omega), if_neg (by simp), if_neg (by omega), if_neg (by omega), if_neg (by omega), if_pos rfl, if_pos (.inr rfl)]
          obtain ⟨ev, eo, so, co, ⟨hev, hco⟩, R⟩ := RULES CC; rw [← hev]
          rw [← hco] at osp on1 on2 v5
          simp only [fpart, part', Tryd.f18, Option.getD]
          simp (maxSteps := 5000000) only [SA, SB, SD, R, guardAt, binP, intP, indexAddrP, elemsOf, readCells, lenP, lenAt, resultsP, resultP, oneOr, reduceCtorEq, reduceIte, Nat.reduceEqDiff, Nat.reduceAdd, Nat.zero_add, Nat.reduceMul, Nat.reduceLT, Nat.reduceLeDiff, Int.reduceLT, Int.reduceNeg, Int.reduceLE, appendP, appendAt, letGo, setLoc, locVal, Int.reduceToNat, boxCells, und, TG, SE, SC, List.getElem?_cons_zero, List.getElem?_cons_succ, unP, htu, htr, hky, hev1, htg, hsp, hrl, loadR, loadP, lay, List.take_succ_cons, List.take_zero, List.drop_nil, List.filter_nil, List.cons_append, Int.reduceBEq, Int.reduceBNe, Int.reduceGT, Int.reduceLT, Int.reduceGE, Bool.not_true, Bool.not_false, osp, on1, on2, v5, hn, c1, c2]
          exact ⟨_, rfl⟩
        | false =>
          rw [if_neg (by omega), if_neg (by simp), if_neg (by omega), if_neg (by omega), if_neg (by omega), if_pos rfl, if_neg (by rw [hne']; simp)]
          obtain ⟨ev, eo, so, co, ⟨hev, hco⟩, R⟩ := RULES CC; rw [← hev]
          rw [← hco] at osp on1 on2 v5
          simp only [fpart, part', Tryd.f18, Option.getD]
          simp (maxSteps := 5000000) only [SA, SB, SD, R, guardAt, binP, intP, indexAddrP, elemsOf, readCells, lenP, lenAt, resultsP, resultP, oneOr, reduceCtorEq, reduceIte, Nat.reduceEqDiff, Nat.reduceAdd, Nat.zero_add, Nat.reduceMul, Nat.reduceLT, Nat.reduceLeDiff, Int.reduceLT, Int.reduceNeg, Int.reduceLE, appendP, appendAt, letGo, setLoc, locVal, Int.reduceToNat, boxCells, und, TG, SE, SC, List.getElem?_cons_zero, List.getElem?_cons_succ, unP, htu, htr, hky, hev1, htg, hsp, hrl, loadR, loadP, lay, List.take_succ_cons, List.take_zero, List.drop_nil, List.filter_nil, List.cons_append, Int.reduceBEq, Int.reduceBNe, Int.reduceGT, Int.reduceLT, Int.reduceGE, Bool.not_true, Bool.not_false, osp, on1, on2, v5, hn, c1, c2]
          exact ⟨_, rfl⟩
    by_cases k6 : k = 6
    · subst k6
      by_cases e0 : n < 0
      · rw [if_neg (by omega), if_neg (by simp), if_neg (by omega), if_neg (by omega), if_neg (by omega), if_neg (by omega), if_pos rfl, if_neg (by omega)]
        obtain ⟨ev, eo, so, co, ⟨hev, hco⟩, R⟩ := RULES CC; rw [← hev]
        rw [← hco] at osp on1 on2 v5
        simp only [fpart, part', Tryd.f18, Option.getD]
        simp (maxSteps := 5000000) only [SA, SB, SD, R, guardAt, binP, intP, indexAddrP, elemsOf, readCells, lenP, lenAt, resultsP, resultP, oneOr, reduceCtorEq, reduceIte, Nat.reduceEqDiff, Nat.reduceAdd, Nat.zero_add, Nat.reduceMul, Nat.reduceLT, Nat.reduceLeDiff, Int.reduceLT, Int.reduceNeg, Int.reduceLE, appendP, appendAt, letGo, setLoc, locVal, Int.reduceToNat, boxCells, und, TG, SE, SC, List.getElem?_cons_zero, List.getElem?_cons_succ, unP, htu, htr, hky, hev1, htg, hsp, hrl, loadR, loadP, lay, List.take_succ_cons, List.take_zero, List.drop_nil, List.filter_nil, List.cons_append, Int.reduceBEq, Int.reduceBNe, Int.reduceGT, Int.reduceLT, Int.reduceGE, Bool.not_true, Bool.not_false, osp, on1, on2, v5, hn, c1, c2, e0]
        exact ⟨_, rfl⟩
      by_cases e1 : n > 1099511627776
      · rw [if_neg (by omega), if_neg (by simp), if_neg (by omega), if_neg (by omega), if_neg (by omega), if_neg (by omega), if_pos rfl, if_neg (by omega)]
        obtain ⟨ev, eo, so, co, ⟨hev, hco⟩, R⟩ := RULES CC; rw [← hev]
        rw [← hco] at osp on1 on2 v5
        simp only [fpart, part', Tryd.f18, Option.getD]
        simp (maxSteps := 5000000) only [SA, SB, SD, R, guardAt, binP, intP, indexAddrP, elemsOf, readCells, lenP, lenAt, resultsP, resultP, oneOr, reduceCtorEq, reduceIte, Nat.reduceEqDiff, Nat.reduceAdd, Nat.zero_add, Nat.reduceMul, Nat.reduceLT, Nat.reduceLeDiff, Int.reduceLT, Int.reduceNeg, Int.reduceLE, appendP, appendAt, letGo, setLoc, locVal, Int.reduceToNat, boxCells, und, TG, SE, SC, List.getElem?_cons_zero, List.getElem?_cons_succ, unP, htu, htr, hky, hev1, htg, hsp, hrl, loadR, loadP, lay, List.take_succ_cons, List.take_zero, List.drop_nil, List.filter_nil, List.cons_append, Int.reduceBEq, Int.reduceBNe, Int.reduceGT, Int.reduceLT, Int.reduceGE, Bool.not_true, Bool.not_false, osp, on1, on2, v5, hn, c1, c2, e0, e1]
        exact ⟨_, rfl⟩
      rw [if_neg (by omega), if_neg (by simp), if_neg (by omega), if_neg (by omega), if_neg (by omega), if_neg (by omega), if_pos rfl, if_pos (by omega)]
      obtain ⟨ev, eo, so, co, ⟨hev, hco⟩, R⟩ := RULES CC; rw [← hev]
      rw [← hco] at osp on1 on2 v5
      simp only [fpart, part', Tryd.f18, Option.getD]
      simp (maxSteps := 5000000) only [SA, SB, SD, R, guardAt, binP, intP, indexAddrP, elemsOf, readCells, lenP, lenAt, resultsP, resultP, oneOr, reduceCtorEq, reduceIte, Nat.reduceEqDiff, Nat.reduceAdd, Nat.zero_add, Nat.reduceMul, Nat.reduceLT, Nat.reduceLeDiff, Int.reduceLT, Int.reduceNeg, Int.reduceLE, appendP, appendAt, letGo, setLoc, locVal, Int.reduceToNat, boxCells, und, TG, SE, SC, List.getElem?_cons_zero, List.getElem?_cons_succ, unP, htu, htr, hky, hev1, htg, hsp, hrl, loadR, loadP, lay, List.take_succ_cons, List.take_zero, List.drop_nil, List.filter_nil, List.cons_append, Int.reduceBEq, Int.reduceBNe, Int.reduceGT, Int.reduceLT, Int.reduceGE, Bool.not_true, Bool.not_false, osp, on1, on2, v5, hn, c1, c2, e0, e1]
      exact ⟨_, rfl⟩
    have k5 : k = 5 := by omega
    subst k5
    rw [if_neg (by omega), if_neg (by simp), if_neg (by omega), if_neg (by omega), if_neg (by omega), if_neg (by omega), if_neg (by omega)]
    obtain ⟨ev, eo, so, co, ⟨hev, hco⟩, R⟩ := RULES CC; rw [← hev]
    rw [← hco] at osp on1 on2 v5
    simp only [fpart, part', Tryd.f18, Option.getD]
    simp (maxSteps := 5000000) only [SA, SB, SD, R, guardAt, binP, intP, indexAddrP, elemsOf, readCells, lenP, lenAt, resultsP, resultP, oneOr, reduceCtorEq, reduceIte, Nat.reduceEqDiff, Nat.reduceAdd, Nat.zero_add, Nat.reduceMul, Nat.reduceLT, Nat.reduceLeDiff, Int.reduceLT, Int.reduceNeg, Int.reduceLE, appendP, appendAt, letGo, setLoc, locVal, Int.reduceToNat, boxCells, und, TG, SE, SC, List.getElem?_cons_zero, List.getElem?_cons_succ, unP, htu, htr, hky, hev1, htg, hsp, hrl, loadR, loadP, lay, List.take_succ_cons, List.take_zero, List.drop_nil, List.filter_nil, List.cons_append, Int.reduceBEq, Int.reduceBNe, Int.reduceGT, Int.reduceLT, Int.reduceGE, Bool.not_true, Bool.not_false, osp, on1, on2, v5, hn, c1, c2]
    exact ⟨_, rfl⟩
set_option maxHeartbeats 4000000
theorem okB_spare : fnOKB Tryd.f30 (Tryd.f30.body.getD .skip) = true := by kernel_rfl
theorem noB_spare : fnOK CC Tryd.f30 (Tryd.f30.body.getD .skip) = false := by kernel_rfl
theorem fat_spare : CC.P.funcs[30]? = some Tryd.f30 := by kernel_rfl
def opsOf : Code → Array Oper
  | .region _ ops _ => ops
  | _ => #[]
theorem setT_comm : ∀ (e : List PV) (i j : Nat) (a b : PV), i ≠ j → setT (setT e i a) j b = setT (setT e j b) i a
  | [], 0, 0, _, _, h => absurd rfl h
  | [], 0, j + 1, a, b, _ => by simp [setT]
  | [], i + 1, 0, a, b, _ => by simp [setT]
  | [], i + 1, j + 1, a, b, h => by
    have := setT_comm [] i j a b (by omega)
    simp [setT, this]
  | _ :: _, 0, 0, _, _, h => absurd rfl h
  | _ :: _, 0, j + 1, _, _, _ => by simp [setT]
  | _ :: _, i + 1, 0, _, _, _ => by simp [setT]
  | x :: r, i + 1, j + 1, a, b, h => by
    have := setT_comm r i j a b (by omega)
    simp [setT, this]
theorem ordSP : orders (opsOf (fpart Tryd.f30 [1,1,0,1,0,1,1,1,1,1,0])) = [[0, 1, 2, 3, 4, 5, 6, 7], [0, 1, 2, 4, 3, 5, 6, 7], [0, 1, 2, 4, 5, 3, 6, 7], [0, 1, 4, 2, 3, 5, 6, 7], [0, 1, 4, 2, 5, 3, 6, 7], [0, 1, 4, 5, 2, 3, 6, 7], [0, 2, 1, 3, 4, 5, 6, 7], [0, 2, 1, 4, 3, 5, 6, 7], [0, 2, 1, 4, 5, 3, 6, 7], [0, 2, 3, 1, 4, 5, 6, 7], [2, 0, 1, 3, 4, 5, 6, 7], [2, 0, 1, 4, 3, 5, 6, 7], [2, 0, 1, 4, 5, 3, 6, 7], [2, 0, 3, 1, 4, 5, 6, 7], [2, 3, 0, 1, 4, 5, 6, 7]] := by kernel_rfl
theorem draw_SP (k n m : Int) (d : Int) (c a : List UInt8) (d' : Int) (c' a' nm : List UInt8) (e : List PV) (h1 : getT e 1 = .bp 0 0) (h3 : getT e 3 = .bp 1 0) :
    drawAll CC (callL CC) (opsOf (fpart Tryd.f30 [1,1,0,1,0,1,1,1,1,1,0])) ⟨e, [.cells 45 [.int .i64 k, .int .i64 d, .str c, .str a, .int .i64 d', .str c', .str a', .str nm, .int .i64 n, .int .i64 m], .cells 45 [.int .i64 k, .int .i64 0, .str [], .str [], .int .i64 0, .str [], .str [], .str [], .int .i64 0, .int .i64 0]]⟩ =
      some (.normal, ⟨setT (setT (setT (setT (setT (setT e 21 (.bp 0 8)) 22 (.int .i64 n)) 23 (.bp 0 9)) 24 (.int .i64 m)) 25 (.bp 1 8)) 26 (.bp 1 9), [.cells 45 [.int .i64 k, .int .i64 d, .str c, .str a, .int .i64 d', .str c', .str a', .str nm, .int .i64 n, .int .i64 m], .cells 45 [.int .i64 k, .int .i64 0, .str [], .str [], .int .i64 0, .str [], .str [], .str [], .int .i64 n, .int .i64 m]]⟩) := by
  refine drawAll_iff.2 ⟨by rw [ordSP]; simp, fun l hl => ?_⟩
  rw [ordSP] at hl
  obtain ⟨tu, htu⟩ := VLs
  obtain ⟨tg, htg⟩ := TG_s
  obtain ⟨dr, ev, eo, so, co, ⟨hev, hco, heo, hdr⟩, R⟩ := RULESB CC
  rw [← heo]
  simp only [List.mem_cons, List.not_mem_nil, or_false] at hl
  rcases hl with rfl | rfl | rfl | rfl | rfl | rfl | rfl | rfl | rfl | rfl | rfl | rfl | rfl | rfl | rfl
  all_goals
    simp only [opsOf, fpart, part', Tryd.f30, Option.getD, pickOps, List.filterMap_cons, List.filterMap_nil, List.getElem?_toArray, List.getElem?_cons_succ, List.getElem?_cons_zero]
    simp (maxSteps := 5000000) only [SA, SB, SD, R, guardAt, binP, intP, indexAddrP, elemsOf, readCells, lenP, lenAt, resultsP, resultP, oneOr, reduceCtorEq, reduceIte, Nat.reduceEqDiff, Nat.reduceAdd, Nat.zero_add, Nat.reduceMul, Nat.reduceLT, Nat.reduceLeDiff, Int.reduceLT, Int.reduceNeg, Int.reduceLE, appendP, appendAt, letGo, setLoc, locVal, Int.reduceToNat, boxCells, und, TG, SE, SC, List.getElem?_cons_zero, List.getElem?_cons_succ, unP, htu, htg, loadR, loadP, storeR, storeK, storeCellsP, laid, lay, setBox, List.set_cons_zero, List.set_cons_succ, List.length_cons, List.length_nil, Option.map_some, Nat.le_refl, List.take_succ_cons, List.take_zero, List.drop_nil, List.filter_nil, List.cons_append, Bool.not_true, Bool.not_false, h1, h3]
    repeat (first | rw [setT_comm _ 26 25 _ _ (by decide)] | rw [setT_comm _ 26 24 _ _ (by decide)] | rw [setT_comm _ 26 23 _ _ (by decide)] | rw [setT_comm _ 26 22 _ _ (by decide)] | rw [setT_comm _ 26 21 _ _ (by decide)] | rw [setT_comm _ 25 24 _ _ (by decide)] | rw [setT_comm _ 25 23 _ _ (by decide)] | rw [setT_comm _ 25 22 _ _ (by decide)] | rw [setT_comm _ 25 21 _ _ (by decide)] | rw [setT_comm _ 24 23 _ _ (by decide)] | rw [setT_comm _ 24 22 _ _ (by decide)] | rw [setT_comm _ 24 21 _ _ (by decide)] | rw [setT_comm _ 23 22 _ _ (by decide)] | rw [setT_comm _ 23 21 _ _ (by decide)] | rw [setT_comm _ 22 21 _ _ (by decide)])
def and3 (x y : Option Bool) : Option Bool := match x with
  | some true => y
  | o => o
theorem and2_some (x y : Bool) : and2 x (some y) = some (x && y) := by cases x <;> rfl
theorem and3_some (x y : Bool) : and3 (some x) (some y) = some (x && y) := by cases x <;> rfl
theorem eqTP (k k2 n n2 m m2 d d2 e e2 : Int) (c a f g nm c2 a2 f2 g2 nm2 : List UInt8) :
    eqP CC 100 45 (.agg [.int .i64 k, .int .i64 d, .str c, .str a, .int .i64 e, .str f, .str g, .str nm, .int .i64 n, .int .i64 m]) (.agg [.int .i64 k2, .int .i64 d2, .str c2, .str a2, .int .i64 e2, .str f2, .str g2, .str nm2, .int .i64 n2, .int .i64 m2]) =
      some ((k == k2) && (eqKy (d, c, a) (d2, c2, a2) && (eqKy (e, f, g) (e2, f2, g2) && ((nm == nm2) && ((n == n2) && (m == m2)))))) := by
  have h : eqP CC 100 45 (.agg [.int .i64 k, .int .i64 d, .str c, .str a, .int .i64 e, .str f, .str g, .str nm, .int .i64 n, .int .i64 m]) (.agg [.int .i64 k2, .int .i64 d2, .str c2, .str a2, .int .i64 e2, .str f2, .str g2, .str nm2, .int .i64 n2, .int .i64 m2]) =
      and2 (k == k2) (and3 (and2 (d == d2) (and2 (c == c2) (and2 (a == a2) (some true)))) (and3 (and2 (e == e2) (and2 (f == f2) (and2 (g == g2) (some true)))) (and2 (nm == nm2) (and2 (n == n2) (and2 (m == m2) (some true)))))) := by kernel_rfl
  rw [h]
  simp only [and2_some, and3_some, Bool.and_true, eqKy, Bool.and_assoc]
theorem eqgT : CC.P.eqGuardType CC.P.depth 45 = false := by kernel_rfl
theorem buildTg (k : Int) : buildP CC 45 [(0, .int .i64 k)] = some (.agg [.int .i64 k, .int .i64 0, .str [], .str [], .int .i64 0, .str [], .str [], .str [], .int .i64 0, .int .i64 0]) := by kernel_rfl
theorem eqKy_refl (v : Ky) : eqKy v v = true := by simp [eqKy]
theorem eqKy_comm (v w : Ky) : eqKy v w = eqKy w v := by
  unfold eqKy
  rw [BEq.comm (a := v.1), BEq.comm (a := v.2.1), BEq.comm (a := v.2.2)]
/-- what the comparison says -/
def spR (k : Int) (key ev : Ky) (nm : List UInt8) (n m : Int) (key1 ev1 : Ky) (nm1 : List UInt8) (n1 m1 : Int) : Bool := (k == k) && (eqKy key1 key && (eqKy ev1 ev && ((nm1 == nm) && ((n1 == n) && (m1 == m)))))
theorem spR_ts (k : Int) (key ev : Ky) (nm : List UInt8) (n m : Int) :
    spR k key ev nm n m (if k = 1 then key else (0, [], [])) (if k = 2 then ev else (0, [], [])) (if k = 4 then nm else []) (if k = 3 ∨ k = 6 then n else 0) (if k = 3 then m else 0) = !(tsT ⟨k, key, ev, nm, n, m⟩) := by
  unfold spR tsT tsB
  simp only [beq_self_eq_true, Bool.true_and]
  rw [eqKy_comm _ key, eqKy_comm _ ev]
  have en : ∀ x : Int, (0 == x) = !(x != 0) := fun x => by simp [bne, BEq.comm (a := (0 : Int))]
  have es : ([] == nm) = (nm == []) := BEq.comm
  by_cases k1 : k = 1
  · subst k1; simp [eqKy_refl, en, es, Bool.and_assoc]
  by_cases k2 : k = 2
  · subst k2; simp [eqKy_refl, en, es, Bool.and_assoc]
  by_cases k3 : k = 3
  · subst k3; simp [eqKy_refl, en, es, Bool.and_assoc]
  by_cases k4 : k = 4
  · subst k4; simp [eqKy_refl, en, es, Bool.and_assoc]
  by_cases k6 : k = 6
  · subst k6; simp [eqKy_refl, en, es, Bool.and_assoc]
  have p1 : (k == 1) = false := by simpa using k1
  have p2 : (k == 2) = false := by simpa using k2
  have p3 : (k == 3) = false := by simpa using k3
  have p4 : (k == 4) = false := by simpa using k4
  have p6 : (k == 6) = false := by simpa using k6
  simp [k1, k2, k3, k4, k6, p1, p2, p3, p4, p6, en, es, Bool.and_assoc]
theorem call_print_spare (t : Tg) : ∃ bx, callL CC 30 [tgV t] [] = some (.ret (.bool (!(tsT t))), bx) := by
  obtain ⟨k, key, ev, nm, n, m⟩ := t
  rw [← spR_ts]
  obtain ⟨d, c, a⟩ := key
  obtain ⟨d', c', a'⟩ := ev
  unfold tgV spR
  simp only
  rw [callL_enterB (fn := Tryd.f30) (c := Tryd.f30.body.getD .skip) rfl rfl fat_spare rfl noB_spare okB_spare (Nat.le_of_ble_eq_true rfl)]
  obtain ⟨tu, htu⟩ := VLs
  obtain ⟨tk, hky⟩ := KYs
  obtain ⟨te, hev1⟩ := EVs
  obtain ⟨tg, htg⟩ := TG_s
  have hdw := draw_SP k n m d c a d' c' a' nm
  by_cases k1 : k = 1
  · subst k1
    obtain ⟨dr, ev, eo, so, co, ⟨hev, hco, heo, hdr⟩, R⟩ := RULESB CC; rw [← hev]
    simp only [fpart, part', Tryd.f30, Option.getD]
    simp (maxSteps := 5000000) only [SA, SB, SD, R, guardAt, binP, intP, indexAddrP, elemsOf, readCells, lenP, lenAt, resultsP, resultP, oneOr, reduceCtorEq, reduceIte, Nat.reduceEqDiff, Nat.reduceAdd, Nat.zero_add, Nat.reduceMul, Nat.reduceLT, Nat.reduceLeDiff, Int.reduceLT, Int.reduceNeg, Int.reduceLE, appendP, appendAt, letGo, setLoc, locVal, Int.reduceToNat, boxCells, und, TG, SE, SC, List.getElem?_cons_zero, List.getElem?_cons_succ, unP, htu, hky, hev1, htg, eqTP, eqgT, buildTg, TGf, loadR, loadP, storeR, storeK, storeCellsP, laid, lay, setBox, List.set_cons_zero, List.set_cons_succ, List.length_cons, List.length_nil, Nat.le_refl, Option.map_some, List.take_succ_cons, List.take_zero, List.drop_succ_cons, List.drop_zero, List.drop_nil, List.filter_nil, List.nil_append, List.cons_append, Int.reduceBEq, Int.reduceBNe, Int.reduceGT, Int.reduceGE, Bool.not_true, Bool.not_false, htg]
    exact ⟨_, rfl⟩
  by_cases k2 : k = 2
  · subst k2
    obtain ⟨dr, ev, eo, so, co, ⟨hev, hco, heo, hdr⟩, R⟩ := RULESB CC; rw [← hev]
    simp only [fpart, part', Tryd.f30, Option.getD]
    simp (maxSteps := 5000000) only [SA, SB, SD, R, guardAt, binP, intP, indexAddrP, elemsOf, readCells, lenP, lenAt, resultsP, resultP, oneOr, reduceCtorEq, reduceIte, Nat.reduceEqDiff, Nat.reduceAdd, Nat.zero_add, Nat.reduceMul, Nat.reduceLT, Nat.reduceLeDiff, Int.reduceLT, Int.reduceNeg, Int.reduceLE, appendP, appendAt, letGo, setLoc, locVal, Int.reduceToNat, boxCells, und, TG, SE, SC, List.getElem?_cons_zero, List.getElem?_cons_succ, unP, htu, hky, hev1, htg, eqTP, eqgT, buildTg, TGf, loadR, loadP, storeR, storeK, storeCellsP, laid, lay, setBox, List.set_cons_zero, List.set_cons_succ, List.length_cons, List.length_nil, Nat.le_refl, Option.map_some, List.take_succ_cons, List.take_zero, List.drop_succ_cons, List.drop_zero, List.drop_nil, List.filter_nil, List.nil_append, List.cons_append, Int.reduceBEq, Int.reduceBNe, Int.reduceGT, Int.reduceGE, Bool.not_true, Bool.not_false, htg]
    exact ⟨_, rfl⟩
  by_cases k3 : k = 3
  · subst k3
    obtain ⟨dr, ev, eo, so, co, ⟨hev, hco, heo, hdr⟩, R⟩ := RULESB CC; rw [← hev]
    rw [← hdr] at hdw
    simp only [opsOf, fpart, part', Tryd.f30, Option.getD] at hdw ⊢
    simp (maxSteps := 5000000) only [SA, SB, SD, R, guardAt, binP, intP, indexAddrP, elemsOf, readCells, lenP, lenAt, resultsP, resultP, oneOr, reduceCtorEq, reduceIte, Nat.reduceEqDiff, Nat.reduceAdd, Nat.zero_add, Nat.reduceMul, Nat.reduceLT, Nat.reduceLeDiff, Int.reduceLT, Int.reduceNeg, Int.reduceLE, appendP, appendAt, letGo, setLoc, locVal, Int.reduceToNat, boxCells, und, TG, SE, SC, List.getElem?_cons_zero, List.getElem?_cons_succ, unP, htu, hky, hev1, htg, eqTP, eqgT, buildTg, TGf, loadR, loadP, storeR, storeK, storeCellsP, laid, lay, setBox, List.set_cons_zero, List.set_cons_succ, List.length_cons, List.length_nil, Nat.le_refl, Option.map_some, List.take_succ_cons, List.take_zero, List.drop_succ_cons, List.drop_zero, List.drop_nil, List.filter_nil, List.nil_append, List.cons_append, Int.reduceBEq, Int.reduceBNe, Int.reduceGT, Int.reduceGE, Bool.not_true, Bool.not_false, hdw]
    exact ⟨_, rfl⟩
  by_cases k4 : k = 4
  · subst k4
    obtain ⟨dr, ev, eo, so, co, ⟨hev, hco, heo, hdr⟩, R⟩ := RULESB CC; rw [← hev]
    simp only [fpart, part', Tryd.f30, Option.getD]
    simp (maxSteps := 5000000) only [SA, SB, SD, R, guardAt, binP, intP, indexAddrP, elemsOf, readCells, lenP, lenAt, resultsP, resultP, oneOr, reduceCtorEq, reduceIte, Nat.reduceEqDiff, Nat.reduceAdd, Nat.zero_add, Nat.reduceMul, Nat.reduceLT, Nat.reduceLeDiff, Int.reduceLT, Int.reduceNeg, Int.reduceLE, appendP, appendAt, letGo, setLoc, locVal, Int.reduceToNat, boxCells, und, TG, SE, SC, List.getElem?_cons_zero, List.getElem?_cons_succ, unP, htu, hky, hev1, htg, eqTP, eqgT, buildTg, TGf, loadR, loadP, storeR, storeK, storeCellsP, laid, lay, setBox, List.set_cons_zero, List.set_cons_succ, List.length_cons, List.length_nil, Nat.le_refl, Option.map_some, List.take_succ_cons, List.take_zero, List.drop_succ_cons, List.drop_zero, List.drop_nil, List.filter_nil, List.nil_append, List.cons_append, Int.reduceBEq, Int.reduceBNe, Int.reduceGT, Int.reduceGE, Bool.not_true, Bool.not_false, htg]
    exact ⟨_, rfl⟩
  by_cases k6 : k = 6
  · subst k6
    obtain ⟨dr, ev, eo, so, co, ⟨hev, hco, heo, hdr⟩, R⟩ := RULESB CC; rw [← hev]
    simp only [fpart, part', Tryd.f30, Option.getD]
    simp (maxSteps := 5000000) only [SA, SB, SD, R, guardAt, binP, intP, indexAddrP, elemsOf, readCells, lenP, lenAt, resultsP, resultP, oneOr, reduceCtorEq, reduceIte, Nat.reduceEqDiff, Nat.reduceAdd, Nat.zero_add, Nat.reduceMul, Nat.reduceLT, Nat.reduceLeDiff, Int.reduceLT, Int.reduceNeg, Int.reduceLE, appendP, appendAt, letGo, setLoc, locVal, Int.reduceToNat, boxCells, und, TG, SE, SC, List.getElem?_cons_zero, List.getElem?_cons_succ, unP, htu, hky, hev1, htg, eqTP, eqgT, buildTg, TGf, loadR, loadP, storeR, storeK, storeCellsP, laid, lay, setBox, List.set_cons_zero, List.set_cons_succ, List.length_cons, List.length_nil, Nat.le_refl, Option.map_some, List.take_succ_cons, List.take_zero, List.drop_succ_cons, List.drop_zero, List.drop_nil, List.filter_nil, List.nil_append, List.cons_append, Int.reduceBEq, Int.reduceBNe, Int.reduceGT, Int.reduceGE, Bool.not_true, Bool.not_false, htg]
    exact ⟨_, rfl⟩
  have p1 : (k == 1) = false := by simpa using k1
  have p2 : (k == 2) = false := by simpa using k2
  have p3 : (k == 3) = false := by simpa using k3
  have p4 : (k == 4) = false := by simpa using k4
  have p6 : (k == 6) = false := by simpa using k6
  rw [if_neg k1, if_neg k2, if_neg k4, if_neg (by omega), if_neg k3]
  obtain ⟨dr, ev, eo, so, co, ⟨hev, hco, heo, hdr⟩, R⟩ := RULESB CC; rw [← hev]
  simp only [fpart, part', Tryd.f30, Option.getD]
  simp (maxSteps := 5000000) only [SA, SB, SD, R, guardAt, binP, intP, indexAddrP, elemsOf, readCells, lenP, lenAt, resultsP, resultP, oneOr, reduceCtorEq, reduceIte, Nat.reduceEqDiff, Nat.reduceAdd, Nat.zero_add, Nat.reduceMul, Nat.reduceLT, Nat.reduceLeDiff, Int.reduceLT, Int.reduceNeg, Int.reduceLE, appendP, appendAt, letGo, setLoc, locVal, Int.reduceToNat, boxCells, und, TG, SE, SC, List.getElem?_cons_zero, List.getElem?_cons_succ, unP, htu, hky, hev1, htg, eqTP, eqgT, buildTg, TGf, loadR, loadP, storeR, storeK, storeCellsP, laid, lay, setBox, List.set_cons_zero, List.set_cons_succ, List.length_cons, List.length_nil, Nat.le_refl, Option.map_some, List.take_succ_cons, List.take_zero, List.drop_succ_cons, List.drop_zero, List.drop_nil, List.filter_nil, List.nil_append, List.cons_append, Int.reduceBEq, Int.reduceBNe, Int.reduceGT, Int.reduceGE, Bool.not_true, Bool.not_false, p1, p2, p3, p4, p6]
  exact ⟨_, rfl⟩
theorem op_print_spare (t : Tg) (bx) : callOp CC (callL CC) 30 [tgV t] bx = some (.ret (.bool (!(tsT t))), bx) := by
  obtain ⟨b, h⟩ := call_print_spare t
  exact callOp_of rfl (by simp only [pureL_cons, tgV_pure, pureL_nil, Bool.and_self]) h rfl
theorem op_print_trigger (t : Tg) (hp : plTg t = true) (bx) : callOp CC (callL CC) 18 [tgV t] bx = some (.ret (.int .i64 (tgE t)), bx) := by
  obtain ⟨b, h⟩ := call_print_trigger op_print_spare t hp
  exact callOp_of rfl (by simp only [pureL_cons, tgV_pure, pureL_nil, Bool.and_self]) h rfl
theorem op_print_CheckRl (r : Rl) (hp : plRl r = true) (bx) : callOp CC (callL CC) 7 [rlV r] bx = some (.ret (.int .i64 (rlE r)), bx) := by
  obtain ⟨b, h⟩ := call_print_Check (fun t ht => op_print_trigger t ht) r hp
  exact callOp_of rfl (by simp only [pureL_cons, rlV_pure, pureL_nil, Bool.and_self]) h rfl
end Go.HH
