/-
  Logs: the laws of chains.
-/
import Derived.Test.YtbbhmdpbojoheaaDoorY6
namespace Go.HH
open Go Go.Proofs
set_option maxRecDepth 100000
set_option maxHeartbeats 4000000
set_option linter.unusedSimpArgs false
set_option linter.unusedVariables false
theorem call_Chain (l : List En) (no : Int) (h : smL l) (bx) : callL CC 15 [.sl (ens l), .int .i64 no] bx = some (.ret (.sl (ens (chT l no))), bx) := by
  have hp : CC.prim 15 = some chP := rfl
  have hq : CC.hprim 15 = none := rfl
  unfold callL bodyP bodyQ
  simp only [hq, hp, pureL, PV.pure, ens_pure, Bool.and_self, if_true, chP_ens l no h, Option.map_some]
theorem op_Chain (l : List En) (no : Int) (h : smL l) (bx) : callOp CC (callL CC) 15 [.sl (ens l), .int .i64 no] bx = some (.ret (.sl (ens (chT l no))), bx) := callOp_of rfl (by simp only [pureL, PV.pure, ens_pure, Bool.and_self]) (call_Chain l no h []) (by simp only [PV.pure, ens_pure])
theorem loop_desc (L : Code) (hL : L = fpart Tryd.f6 [1,1,0,1,0]) (l : List En) (hl : l.length ≤ maxLen) (no : Int) (h0 : ∀ x, l[0]? = some x → x.no = no) (hn : ∀ i a b, l[i]? = some a → l[i + 1]? = some b → b.no = a.par ∧ b.no < a.no) : ∀ (k i : Nat) (e : List PV) (bx : List PBox), i + k = l.length →
    getT e 5 = .sl (ens l) → getT e 1 = .int .i64 no → getT e 6 = .int .i64 i → PCn 0 5 bx (.sl (ens l)) (evL CC L ⟨e, bx⟩) := by
  intro k
  induction k with
  | zero =>
    intro i e bx hi0 e5 e1 e6
    rw [evL_at (fpart Tryd.f6 [1,1,0,1,0,0]) hL]
    have hi : ¬ ((i : Int) < (l.length : Int)) := by omega
    have hln := ens_length l
    obtain ⟨tn, hen⟩ := ENs
    obtain ⟨tu, htu⟩ := VLs
    obtain ⟨tk, hky⟩ := KYs
    obtain ⟨tc, hcs⟩ := CSs
    generalize ens l = xs at *
    obtain ⟨ev, eo, so, co, ⟨hev, hco⟩, R⟩ := RULES CC; rw [← hev]
    simp only [fpart, part', Tryd.f6, Option.getD]
    simp (maxSteps := 5000000) only [SA, SB, SD, R, guardAt, binP, intP, indexAddrP, elemsOf, readCells, lenP, lenAt, resultsP, resultP, oneOr, reduceCtorEq, reduceIte, Nat.reduceEqDiff, Nat.reduceAdd, Nat.zero_add, Nat.reduceMul, Nat.reduceLT, Nat.reduceLeDiff, Int.reduceLT, Int.reduceNeg, Int.reduceLE, appendP, appendAt, letGo, setLoc, locVal, Int.reduceToNat, boxCells, und, TG, SE, SC, ENf, List.getElem?_concat_length, List.getElem?_cons_zero, List.getElem?_cons_succ, List.take_nil, unP, hen, htu, hky, hcs, loadR, loadP, storeR, storeK, storeCellsP, laid, lay, setBox, ss1, List.length_cons, List.length_nil, Nat.le_refl, Option.map_some, List.take_succ_cons, List.take_zero, List.drop_succ_cons, List.drop_zero, List.drop_nil, List.filter_nil, List.nil_append, List.cons_append, Int.reduceBEq, Int.reduceBNe, Int.reduceGT, Int.reduceGE, Bool.not_true, Bool.not_false, e5, e1, e6, hi, hln]
    exact ⟨_, [], by rw [List.append_nil], by simp (maxSteps := 5000000) only [SA, SB, SD, R, guardAt, binP, intP, indexAddrP, elemsOf, readCells, lenP, lenAt, resultsP, resultP, oneOr, reduceCtorEq, reduceIte, Nat.reduceEqDiff, Nat.reduceAdd, Nat.zero_add, Nat.reduceMul, Nat.reduceLT, Nat.reduceLeDiff, Int.reduceLT, Int.reduceNeg, Int.reduceLE, appendP, appendAt, letGo, setLoc, locVal, Int.reduceToNat, boxCells, und, e5, e1, e6]⟩
  | succ k ih =>
    intro i e bx hi0 e5 e1 e6
    rw [evL_at (fpart Tryd.f6 [1,1,0,1,0,0]) hL]
    have hi : ((i : Int) < (l.length : Int)) := by omega
    have hi0' : ¬ ((i : Int) < 0) := by omega
    have hdr : l.drop i = (l[i]'(by omega)) :: l.drop (i + 1) := List.drop_eq_getElem_cons (by omega)
    have hx := ens_get (l := l) (i := i) (e := l[i]'(by omega)) (List.getElem?_eq_getElem (by omega))
    have hw1 := wrap_i64 (n := (i : Int) + 1) ⟨by omega, by simp only [maxLen] at hl; omega⟩
    have cast1 : ((i + 1 : Nat) : Int) = (i : Int) + 1 := by omega
    have hw2 := wrap_i64 (n := (i : Int) - 1) ⟨by omega, by simp only [maxLen] at hl; omega⟩
    have key := fun e bx => ih (i + 1) e bx (by omega)
    rw [cast1] at key
    have hln := ens_length l
    have hxl : l[i]? = some (l[i]'(by omega)) := List.getElem?_eq_getElem (by omega)
    generalize l[i]'(by omega) = x at *
    clear hdr
    obtain ⟨tn, hen⟩ := ENs
    obtain ⟨tu, htu⟩ := VLs
    obtain ⟨tk, hky⟩ := KYs
    obtain ⟨tc, hcs⟩ := CSs
    by_cases hz : i = 0
    · subst hz
      have hxn := h0 x hxl
      obtain ⟨xno, xtk, xk, xkey, xval, xca, xpar⟩ := x
      simp only at hxn
      subst hxn
      unfold enV at hx
      simp only at hx
      have z1 : (((0 : Nat) : Int) == 0) = true := rfl
      have z2 : (xno != xno) = false := by simp
      have z3 : ¬ (((0 : Nat) : Int) > 0) := by omega
      generalize ens l = xs at *
      obtain ⟨ev, eo, so, co, ⟨hev, hco⟩, R⟩ := RULES CC; rw [← hev]
      rw [← hev] at key
      simp only [fpart, part', Tryd.f6, Option.getD]
      simp (maxSteps := 5000000) only [SA, SB, SD, R, guardAt, binP, intP, indexAddrP, elemsOf, readCells, lenP, lenAt, resultsP, resultP, oneOr, reduceCtorEq, reduceIte, Nat.reduceEqDiff, Nat.reduceAdd, Nat.zero_add, Nat.reduceMul, Nat.reduceLT, Nat.reduceLeDiff, Int.reduceLT, Int.reduceNeg, Int.reduceLE, appendP, appendAt, letGo, setLoc, locVal, Int.reduceToNat, boxCells, und, TG, SE, SC, ENf, List.getElem?_concat_length, List.getElem?_cons_zero, List.getElem?_cons_succ, List.take_nil, unP, hen, htu, hky, hcs, loadR, loadP, storeR, storeK, storeCellsP, laid, lay, setBox, ss1, List.length_cons, List.length_nil, Nat.le_refl, Option.map_some, List.take_succ_cons, List.take_zero, List.drop_succ_cons, List.drop_zero, List.drop_nil, List.filter_nil, List.nil_append, List.cons_append, Int.reduceBEq, Int.reduceBNe, Int.reduceGT, Int.reduceGE, Bool.not_true, Bool.not_false, e5, e1, e6, hi, hi0', hx, hln, hw1, z1, z2, z3]
      refine key _ _ ?_ ?_ ?_
      all_goals simp (maxSteps := 5000000) only [SA, SB, SD, R, guardAt, binP, intP, indexAddrP, elemsOf, readCells, lenP, lenAt, resultsP, resultP, oneOr, reduceCtorEq, reduceIte, Nat.reduceEqDiff, Nat.reduceAdd, Nat.zero_add, Nat.reduceMul, Nat.reduceLT, Nat.reduceLeDiff, Int.reduceLT, Int.reduceNeg, Int.reduceLE, appendP, appendAt, letGo, setLoc, locVal, Int.reduceToNat, boxCells, und, e5, e1, e6]
    · have z1 : ((i : Int) == 0) = false := by simp; omega
      have z3 : ((i : Int) > 0) := by omega
      have hpl : l[i - 1]? = some (l[i - 1]'(by omega)) := List.getElem?_eq_getElem (by omega)
      have hy := ens_get hpl
      have hnn := hn (i - 1) _ x hpl (by rw [show i - 1 + 1 = i by omega]; exact hxl)
      have hy0 : ¬ ((i : Int) - 1 < 0) := by omega
      have hyn : ((i : Int) - 1).toNat = i - 1 := by omega
      have hy1 : (i : Int) - 1 < (l.length : Int) := by omega
      generalize l[i - 1]'(by omega) = p at *
      obtain ⟨xno, xtk, xk, xkey, xval, xca, xpar⟩ := x
      obtain ⟨pno, ptk, pk, pkey, pval, pca, ppar⟩ := p
      unfold enV at hx hy
      simp only at hx hy hnn
      have z4 : ¬ (xno ≥ pno) := by omega
      have z5 : (xno != ppar) = false := by rw [hnn.1]; simp
      generalize ens l = xs at *
      clear hpl hxl
      obtain ⟨ev, eo, so, co, ⟨hev, hco⟩, R⟩ := RULES CC; rw [← hev]
      rw [← hev] at key
      simp only [fpart, part', Tryd.f6, Option.getD]
      simp (maxSteps := 5000000) only [SA, SB, SD, R, guardAt, binP, intP, indexAddrP, elemsOf, readCells, lenP, lenAt, resultsP, resultP, oneOr, reduceCtorEq, reduceIte, Nat.reduceEqDiff, Nat.reduceAdd, Nat.zero_add, Nat.reduceMul, Nat.reduceLT, Nat.reduceLeDiff, Int.reduceLT, Int.reduceNeg, Int.reduceLE, appendP, appendAt, letGo, setLoc, locVal, Int.reduceToNat, boxCells, und, TG, SE, SC, ENf, List.getElem?_concat_length, List.getElem?_cons_zero, List.getElem?_cons_succ, List.take_nil, unP, hen, htu, hky, hcs, loadR, loadP, storeR, storeK, storeCellsP, laid, lay, setBox, ss1, List.length_cons, List.length_nil, Nat.le_refl, Option.map_some, List.take_succ_cons, List.take_zero, List.drop_succ_cons, List.drop_zero, List.drop_nil, List.filter_nil, List.nil_append, List.cons_append, Int.reduceBEq, Int.reduceBNe, Int.reduceGT, Int.reduceGE, Bool.not_true, Bool.not_false, e5, e1, e6, hi, hi0', hx, hln, hw1, hw2, hy, hy0, hyn, hy1, z1, z3, z4, z5]
      refine key _ _ ?_ ?_ ?_
      all_goals simp (maxSteps := 5000000) only [SA, SB, SD, R, guardAt, binP, intP, indexAddrP, elemsOf, readCells, lenP, lenAt, resultsP, resultP, oneOr, reduceCtorEq, reduceIte, Nat.reduceEqDiff, Nat.reduceAdd, Nat.zero_add, Nat.reduceMul, Nat.reduceLT, Nat.reduceLeDiff, Int.reduceLT, Int.reduceNeg, Int.reduceLE, appendP, appendAt, letGo, setLoc, locVal, Int.reduceToNat, boxCells, und, e5, e1, e6]
theorem law_WhyDescends (l : List En) (hl : smL l) (no : Int) (hno : inI no) : ∃ bx, callL CC 6 [.sl (ens l), .int .i64 no] [] = some (.ret (.bool true), bx) := by
  have hmax := smL_max hl
  have hcl := chT_length l no
  obtain ⟨_, _, hs⟩ := chT_sorted (l := l) no.toNat no (Nat.le_refl _)
  have hloop := fun e bx => loop_desc _ rfl (chT l no) (by omega) no (fun x hx => by
      cases hc : chT l no with
      | nil => rw [hc] at hx; simp at hx
      | cons a r => rw [hc] at hx; simp only [List.getElem?_cons_zero, Option.some.injEq] at hx; subst hx; exact hs a r hc)
    (fun i a b ha hb => chT_next (l := l) no.toNat no (Nat.le_refl _) i a b ha hb) (chT l no).length 0 e bx (by omega)
  have och := op_Chain l no hl
  have oaw := op_awake
  have hp := ens_pure (chT l no)
  generalize ens (chT l no) = ys at *
  obtain ⟨tn, hen⟩ := ENs
  obtain ⟨tu, htu⟩ := VLs
  obtain ⟨tk, hky⟩ := KYs
  obtain ⟨tc, hcs⟩ := CSs
  rw [callL_enter (fn := Tryd.f6) (c := Tryd.f6.body.getD .skip) rfl rfl fat_L56_WhyDescends rfl ok_L56_WhyDescends (Nat.le_of_ble_eq_true rfl)]
  generalize ens l = xs at *
  obtain ⟨ev, eo, so, co, ⟨hev, hco⟩, R⟩ := RULES CC; rw [← hev]
  rw [← hev] at hloop
  rw [← hco] at och oaw
  simp only [fpart, part', Tryd.f6, Option.getD] at hloop ⊢
  simp (maxSteps := 5000000) only [SA, SB, SD, R, guardAt, binP, intP, indexAddrP, elemsOf, readCells, lenP, lenAt, resultsP, resultP, oneOr, reduceCtorEq, reduceIte, Nat.reduceEqDiff, Nat.reduceAdd, Nat.zero_add, Nat.reduceMul, Nat.reduceLT, Nat.reduceLeDiff, Int.reduceLT, Int.reduceNeg, Int.reduceLE, appendP, appendAt, letGo, setLoc, locVal, Int.reduceToNat, boxCells, und, TG, SE, SC, ENf, List.getElem?_concat_length, List.getElem?_cons_zero, List.getElem?_cons_succ, List.take_nil, unP, hen, htu, hky, hcs, loadR, loadP, storeR, storeK, storeCellsP, laid, lay, setBox, ss1, List.length_cons, List.length_nil, Nat.le_refl, Option.map_some, List.take_succ_cons, List.take_zero, List.drop_succ_cons, List.drop_zero, List.drop_nil, List.filter_nil, List.nil_append, List.cons_append, Int.reduceBEq, Int.reduceBNe, Int.reduceGT, Int.reduceGE, Bool.not_true, Bool.not_false, och, oaw]
  generalize hE : ev (Code.loop _) _ = z
  have hP : PCn 0 5 [] (.sl ys) z := by
    rw [← hE]
    refine hloop _ _ ?_ ?_ ?_
    all_goals first | (simp (maxSteps := 5000000) only [SA, SB, SD, R, guardAt, binP, intP, indexAddrP, elemsOf, readCells, lenP, lenAt, resultsP, resultP, oneOr, reduceCtorEq, reduceIte, Nat.reduceEqDiff, Nat.reduceAdd, Nat.zero_add, Nat.reduceMul, Nat.reduceLT, Nat.reduceLeDiff, Int.reduceLT, Int.reduceNeg, Int.reduceLE, appendP, appendAt, letGo, setLoc, locVal, Int.reduceToNat, boxCells, und]; done) | (simp (maxSteps := 5000000) only [SA, SB, SD, R, guardAt, binP, intP, indexAddrP, elemsOf, readCells, lenP, lenAt, resultsP, resultP, oneOr, reduceCtorEq, reduceIte, Nat.reduceEqDiff, Nat.reduceAdd, Nat.zero_add, Nat.reduceMul, Nat.reduceLT, Nat.reduceLeDiff, Int.reduceLT, Int.reduceNeg, Int.reduceLE, appendP, appendAt, letGo, setLoc, locVal, Int.reduceToNat, boxCells, und]; rfl)
  obtain ⟨e', ex, he, q⟩ := hP
  subst he
  simp (maxSteps := 5000000) only [SA, SB, SD, R, guardAt, binP, intP, indexAddrP, elemsOf, readCells, lenP, lenAt, resultsP, resultP, oneOr, reduceCtorEq, reduceIte, Nat.reduceEqDiff, Nat.reduceAdd, Nat.zero_add, Nat.reduceMul, Nat.reduceLT, Nat.reduceLeDiff, Int.reduceLT, Int.reduceNeg, Int.reduceLE, appendP, appendAt, letGo, setLoc, locVal, Int.reduceToNat, boxCells, und, TG, SE, SC, ENf, List.getElem?_concat_length, List.getElem?_cons_zero, List.getElem?_cons_succ, List.take_nil, unP, hen, htu, hky, hcs, loadR, loadP, storeR, storeK, storeCellsP, laid, lay, setBox, ss1, List.length_cons, List.length_nil, Nat.le_refl, Option.map_some, List.take_succ_cons, List.take_zero, List.drop_succ_cons, List.drop_zero, List.drop_nil, List.filter_nil, List.nil_append, List.cons_append, Int.reduceBEq, Int.reduceBNe, Int.reduceGT, Int.reduceGE, Bool.not_true, Bool.not_false, oaw, q]
  exact ⟨_, rfl⟩
theorem loop_keep1 (L : Code) (hL : L = fpart Tryd.f8 [1,1,1,1,0,1,0]) (c : List En) (hl : c.length ≤ maxLen) (v0 : PV) (hn : ∀ i a b, c[i]? = some a → c[i + 1]? = some b → b.tick ≤ a.tick) : ∀ (k i : Nat) (e : List PV) (bx : List PBox), c.length ≤ i + k → 1 ≤ i → i ≤ c.length + 1 →
    getT e 7 = .sl (ens c) → getT e 8 = .int .i64 i → getT e 0 = v0 → PCn 0 0 bx v0 (evL CC L ⟨e, bx⟩) := by
  intro k
  induction k with
  | zero =>
    intro i e bx hi0 h1 h2 e7 e8 e0
    rw [evL_at (fpart Tryd.f8 [1,1,1,1,0,1,0,0]) hL]
    have hi : ¬ ((i : Int) < (c.length : Int)) := by omega
    have hln := ens_length c
    obtain ⟨tn, hen⟩ := ENs
    obtain ⟨tu, htu⟩ := VLs
    obtain ⟨tk, hky⟩ := KYs
    obtain ⟨tc, hcs⟩ := CSs
    generalize ens c = xs at *
    obtain ⟨ev, eo, so, co, ⟨hev, hco⟩, R⟩ := RULES CC; rw [← hev]
    simp only [fpart, part', Tryd.f8, Option.getD]
    simp (maxSteps := 5000000) only [SA, SB, SD, R, guardAt, binP, intP, indexAddrP, elemsOf, readCells, lenP, lenAt, resultsP, resultP, oneOr, reduceCtorEq, reduceIte, Nat.reduceEqDiff, Nat.reduceAdd, Nat.zero_add, Nat.reduceMul, Nat.reduceLT, Nat.reduceLeDiff, Int.reduceLT, Int.reduceNeg, Int.reduceLE, appendP, appendAt, letGo, setLoc, locVal, Int.reduceToNat, boxCells, und, TG, SE, SC, ENf, List.getElem?_concat_length, List.getElem?_cons_zero, List.getElem?_cons_succ, List.take_nil, unP, hen, htu, hky, hcs, loadR, loadP, storeR, storeK, storeCellsP, laid, lay, setBox, ss1, List.length_cons, List.length_nil, Nat.le_refl, Option.map_some, List.take_succ_cons, List.take_zero, List.drop_succ_cons, List.drop_zero, List.drop_nil, List.filter_nil, List.nil_append, List.cons_append, Int.reduceBEq, Int.reduceBNe, Int.reduceGT, Int.reduceGE, Bool.not_true, Bool.not_false, e7, e8, hi, hln]
    exact ⟨_, [], by rw [List.append_nil], by simp (maxSteps := 5000000) only [SA, SB, SD, R, guardAt, binP, intP, indexAddrP, elemsOf, readCells, lenP, lenAt, resultsP, resultP, oneOr, reduceCtorEq, reduceIte, Nat.reduceEqDiff, Nat.reduceAdd, Nat.zero_add, Nat.reduceMul, Nat.reduceLT, Nat.reduceLeDiff, Int.reduceLT, Int.reduceNeg, Int.reduceLE, appendP, appendAt, letGo, setLoc, locVal, Int.reduceToNat, boxCells, und, e0]⟩
  | succ k ih =>
    intro i e bx hi0 h1 h2 e7 e8 e0
    rw [evL_at (fpart Tryd.f8 [1,1,1,1,0,1,0,0]) hL]
    have hln := ens_length c
    obtain ⟨tn, hen⟩ := ENs
    obtain ⟨tu, htu⟩ := VLs
    obtain ⟨tk, hky⟩ := KYs
    obtain ⟨tc, hcs⟩ := CSs
    by_cases hlt : i < c.length
    · have hi : ((i : Int) < (c.length : Int)) := by omega
      have hi0' : ¬ ((i : Int) < 0) := by omega
      have hxl : c[i]? = some (c[i]'(by omega)) := List.getElem?_eq_getElem (by omega)
      have hpl : c[i - 1]? = some (c[i - 1]'(by omega)) := List.getElem?_eq_getElem (by omega)
      have hx := ens_get hxl
      have hy := ens_get hpl
      have hnn := hn (i - 1) _ _ hpl (by rw [show i - 1 + 1 = i by omega]; exact hxl)
      have hw1 := wrap_i64 (n := (i : Int) + 1) ⟨by omega, by simp only [maxLen] at hl; omega⟩
      have hw2 := wrap_i64 (n := (i : Int) - 1) ⟨by omega, by simp only [maxLen] at hl; omega⟩
      have cast1 : ((i + 1 : Nat) : Int) = (i : Int) + 1 := by omega
      have key := fun e bx => ih (i + 1) e bx (by omega) (by omega) (by omega)
      rw [cast1] at key
      have hy0 : ¬ ((i : Int) - 1 < 0) := by omega
      have hyn : ((i : Int) - 1).toNat = i - 1 := by omega
      have hy1 : (i : Int) - 1 < (c.length : Int) := by omega
      generalize c[i - 1]'(by omega) = p at *
      generalize c[i]'(by omega) = x at *
      obtain ⟨xno, xtk, xk, xkey, xval, xca, xpar⟩ := x
      obtain ⟨pno, ptk, pk, pkey, pval, pca, ppar⟩ := p
      unfold enV at hx hy
      simp only at hx hy hnn
      have z4 : ¬ (xtk > ptk) := by omega
      generalize ens c = xs at *
      clear hpl hxl hn
      obtain ⟨ev, eo, so, co, ⟨hev, hco⟩, R⟩ := RULES CC; rw [← hev]
      rw [← hev] at key
      simp only [fpart, part', Tryd.f8, Option.getD]
      simp (maxSteps := 5000000) only [SA, SB, SD, R, guardAt, binP, intP, indexAddrP, elemsOf, readCells, lenP, lenAt, resultsP, resultP, oneOr, reduceCtorEq, reduceIte, Nat.reduceEqDiff, Nat.reduceAdd, Nat.zero_add, Nat.reduceMul, Nat.reduceLT, Nat.reduceLeDiff, Int.reduceLT, Int.reduceNeg, Int.reduceLE, appendP, appendAt, letGo, setLoc, locVal, Int.reduceToNat, boxCells, und, TG, SE, SC, ENf, List.getElem?_concat_length, List.getElem?_cons_zero, List.getElem?_cons_succ, List.take_nil, unP, hen, htu, hky, hcs, loadR, loadP, storeR, storeK, storeCellsP, laid, lay, setBox, ss1, List.length_cons, List.length_nil, Nat.le_refl, Option.map_some, List.take_succ_cons, List.take_zero, List.drop_succ_cons, List.drop_zero, List.drop_nil, List.filter_nil, List.nil_append, List.cons_append, Int.reduceBEq, Int.reduceBNe, Int.reduceGT, Int.reduceGE, Bool.not_true, Bool.not_false, e7, e8, hi, hi0', hx, hln, hw1, hw2, hy, hy0, hyn, hy1, z4]
      refine key _ _ ?_ ?_ ?_
      all_goals simp (maxSteps := 5000000) only [SA, SB, SD, R, guardAt, binP, intP, indexAddrP, elemsOf, readCells, lenP, lenAt, resultsP, resultP, oneOr, reduceCtorEq, reduceIte, Nat.reduceEqDiff, Nat.reduceAdd, Nat.zero_add, Nat.reduceMul, Nat.reduceLT, Nat.reduceLeDiff, Int.reduceLT, Int.reduceNeg, Int.reduceLE, appendP, appendAt, letGo, setLoc, locVal, Int.reduceToNat, boxCells, und, e7, e8, e0]
    · have hi : ¬ ((i : Int) < (c.length : Int)) := by omega
      generalize ens c = xs at *
      obtain ⟨ev, eo, so, co, ⟨hev, hco⟩, R⟩ := RULES CC; rw [← hev]
      simp only [fpart, part', Tryd.f8, Option.getD]
      simp (maxSteps := 5000000) only [SA, SB, SD, R, guardAt, binP, intP, indexAddrP, elemsOf, readCells, lenP, lenAt, resultsP, resultP, oneOr, reduceCtorEq, reduceIte, Nat.reduceEqDiff, Nat.reduceAdd, Nat.zero_add, Nat.reduceMul, Nat.reduceLT, Nat.reduceLeDiff, Int.reduceLT, Int.reduceNeg, Int.reduceLE, appendP, appendAt, letGo, setLoc, locVal, Int.reduceToNat, boxCells, und, TG, SE, SC, ENf, List.getElem?_concat_length, List.getElem?_cons_zero, List.getElem?_cons_succ, List.take_nil, unP, hen, htu, hky, hcs, loadR, loadP, storeR, storeK, storeCellsP, laid, lay, setBox, ss1, List.length_cons, List.length_nil, Nat.le_refl, Option.map_some, List.take_succ_cons, List.take_zero, List.drop_succ_cons, List.drop_zero, List.drop_nil, List.filter_nil, List.nil_append, List.cons_append, Int.reduceBEq, Int.reduceBNe, Int.reduceGT, Int.reduceGE, Bool.not_true, Bool.not_false, e7, e8, hi, hln]
      exact ⟨_, [], by rw [List.append_nil], by simp (maxSteps := 5000000) only [SA, SB, SD, R, guardAt, binP, intP, indexAddrP, elemsOf, readCells, lenP, lenAt, resultsP, resultP, oneOr, reduceCtorEq, reduceIte, Nat.reduceEqDiff, Nat.reduceAdd, Nat.zero_add, Nat.reduceMul, Nat.reduceLT, Nat.reduceLeDiff, Int.reduceLT, Int.reduceNeg, Int.reduceLE, appendP, appendAt, letGo, setLoc, locVal, Int.reduceToNat, boxCells, und, e0]⟩
theorem sumK_le : ∀ (l : List En) (k : Nat), sumK l k ≤ l.length
  | [], 0 => Nat.le_refl _
  | [], k + 1 => by simp only [sumK, cnT]; exact sumK_le [] k
  | e :: r, k => by
    rw [sumK_cons, List.length_cons]
    have := sumK_le r k
    split <;> omega
/-- what the second loop leaves -/
def PKs (bx : List PBox) (v : Nat) (v0 : PV) (res : Option (Ex × St)) : Prop := ∃ e' ex, res = some (.exit 2, ⟨e', bx ++ ex⟩) ∧ getT e' 9 = .int .i64 v ∧ getT e' 0 = v0
theorem loop_keep2 (L : Code) (hL : L = fpart Tryd.f8 [1,1,1,1,1,1,0,1,0]) (l : List En) (hl : l.length ≤ maxLen) : ∀ (k j : Nat) (e : List PV) (bx : List PBox), j + k = 11 →
    getT e 0 = .sl (ens l) → getT e 9 = .int .i64 (sumK l j) → getT e 10 = .int .i64 (j + 1) → PKs bx (sumK l 11) (.sl (ens l)) (evL CC L ⟨e, bx⟩) := by
  intro k
  induction k with
  | zero =>
    intro j e bx hj e0 e9 e10
    rw [evL_at (fpart Tryd.f8 [1,1,1,1,1,1,0,1,0,0]) hL]
    obtain rfl : j = 11 := by omega
    have hi : ¬ (((11 : Nat) : Int) + 1 ≤ 11) := by omega
    generalize sumK l 11 = v at *
    obtain ⟨tn, hen⟩ := ENs
    obtain ⟨tu, htu⟩ := VLs
    obtain ⟨tk, hky⟩ := KYs
    obtain ⟨tc, hcs⟩ := CSs
    generalize ens l = xs at *
    obtain ⟨ev, eo, so, co, ⟨hev, hco⟩, R⟩ := RULES CC; rw [← hev]
    simp only [fpart, part', Tryd.f8, Option.getD]
    simp (maxSteps := 5000000) only [SA, SB, SD, R, guardAt, binP, intP, indexAddrP, elemsOf, readCells, lenP, lenAt, resultsP, resultP, oneOr, reduceCtorEq, reduceIte, Nat.reduceEqDiff, Nat.reduceAdd, Nat.zero_add, Nat.reduceMul, Nat.reduceLT, Nat.reduceLeDiff, Int.reduceLT, Int.reduceNeg, Int.reduceLE, appendP, appendAt, letGo, setLoc, locVal, Int.reduceToNat, boxCells, und, TG, SE, SC, ENf, List.getElem?_concat_length, List.getElem?_cons_zero, List.getElem?_cons_succ, List.take_nil, unP, hen, htu, hky, hcs, loadR, loadP, storeR, storeK, storeCellsP, laid, lay, setBox, ss1, List.length_cons, List.length_nil, Nat.le_refl, Option.map_some, List.take_succ_cons, List.take_zero, List.drop_succ_cons, List.drop_zero, List.drop_nil, List.filter_nil, List.nil_append, List.cons_append, Int.reduceBEq, Int.reduceBNe, Int.reduceGT, Int.reduceGE, Bool.not_true, Bool.not_false, e0, e9, e10, hi]
    exact ⟨_, [], by rw [List.append_nil], by simp (maxSteps := 5000000) only [SA, SB, SD, R, guardAt, binP, intP, indexAddrP, elemsOf, readCells, lenP, lenAt, resultsP, resultP, oneOr, reduceCtorEq, reduceIte, Nat.reduceEqDiff, Nat.reduceAdd, Nat.zero_add, Nat.reduceMul, Nat.reduceLT, Nat.reduceLeDiff, Int.reduceLT, Int.reduceNeg, Int.reduceLE, appendP, appendAt, letGo, setLoc, locVal, Int.reduceToNat, boxCells, und, e9], by simp (maxSteps := 5000000) only [SA, SB, SD, R, guardAt, binP, intP, indexAddrP, elemsOf, readCells, lenP, lenAt, resultsP, resultP, oneOr, reduceCtorEq, reduceIte, Nat.reduceEqDiff, Nat.reduceAdd, Nat.zero_add, Nat.reduceMul, Nat.reduceLT, Nat.reduceLeDiff, Int.reduceLT, Int.reduceNeg, Int.reduceLE, appendP, appendAt, letGo, setLoc, locVal, Int.reduceToNat, boxCells, und, e0]⟩
  | succ k ih =>
    intro j e bx hj e0 e9 e10
    rw [evL_at (fpart Tryd.f8 [1,1,1,1,1,1,0,1,0,0]) hL]
    have hi : ((j : Int) + 1 ≤ 11) := by omega
    have hop := op_why_Count l hl ((j : Int) + 1)
    have key := fun e bx => ih (j + 1) e bx (by omega)
    have hsum : ((sumK l (j + 1) : Nat) : Int) = (sumK l j : Int) + (cnT l ((j : Int) + 1) : Int) := by
      show ((sumK l j + cnT l ((j + 1 : Nat) : Int) : Nat) : Int) = _
      rw [show ((j + 1 : Nat) : Int) = (j : Int) + 1 by omega]; omega
    have hle := sumK_le l (j + 1)
    have cast1 : ((j + 1 : Nat) : Int) = (j : Int) + 1 := by omega
    have hw1 := wrap_i64 (n := (j : Int) + 1 + 1) ⟨by omega, by omega⟩
    have hw2 := wrap_i64 (n := (sumK l j : Int) + (cnT l ((j : Int) + 1) : Int)) ⟨by omega, by simp only [maxLen] at hl; omega⟩
    rw [hsum, cast1] at key
    generalize sumK l 11 = v at *
    generalize ((sumK l j : Nat) : Int) = s0 at *
    generalize ((cnT l ((j : Int) + 1) : Nat) : Int) = s1 at *
    obtain ⟨tn, hen⟩ := ENs
    obtain ⟨tu, htu⟩ := VLs
    obtain ⟨tk, hky⟩ := KYs
    obtain ⟨tc, hcs⟩ := CSs
    generalize ens l = xs at *
    obtain ⟨ev, eo, so, co, ⟨hev, hco⟩, R⟩ := RULES CC; rw [← hev]
    rw [← hev] at key
    rw [← hco] at hop
    simp only [fpart, part', Tryd.f8, Option.getD]
    simp (maxSteps := 5000000) only [SA, SB, SD, R, guardAt, binP, intP, indexAddrP, elemsOf, readCells, lenP, lenAt, resultsP, resultP, oneOr, reduceCtorEq, reduceIte, Nat.reduceEqDiff, Nat.reduceAdd, Nat.zero_add, Nat.reduceMul, Nat.reduceLT, Nat.reduceLeDiff, Int.reduceLT, Int.reduceNeg, Int.reduceLE, appendP, appendAt, letGo, setLoc, locVal, Int.reduceToNat, boxCells, und, TG, SE, SC, ENf, List.getElem?_concat_length, List.getElem?_cons_zero, List.getElem?_cons_succ, List.take_nil, unP, hen, htu, hky, hcs, loadR, loadP, storeR, storeK, storeCellsP, laid, lay, setBox, ss1, List.length_cons, List.length_nil, Nat.le_refl, Option.map_some, List.take_succ_cons, List.take_zero, List.drop_succ_cons, List.drop_zero, List.drop_nil, List.filter_nil, List.nil_append, List.cons_append, Int.reduceBEq, Int.reduceBNe, Int.reduceGT, Int.reduceGE, Bool.not_true, Bool.not_false, e0, e9, e10, hi, hop, hw1, hw2]
    refine key _ _ ?_ ?_ ?_
    all_goals simp (maxSteps := 5000000) only [SA, SB, SD, R, guardAt, binP, intP, indexAddrP, elemsOf, readCells, lenP, lenAt, resultsP, resultP, oneOr, reduceCtorEq, reduceIte, Nat.reduceEqDiff, Nat.reduceAdd, Nat.zero_add, Nat.reduceMul, Nat.reduceLT, Nat.reduceLeDiff, Int.reduceLT, Int.reduceNeg, Int.reduceLE, appendP, appendAt, letGo, setLoc, locVal, Int.reduceToNat, boxCells, und, e0, e9, e10]
theorem law_WhyKeeps (l : List En) (hl : smL l) (n : Int) (hn : inI n) (no : Int) (hno : inI no) : ∃ bx, callL CC 8 [.sl (ens l), .int .i64 n, .int .i64 no] [] = some (.ret (.bool true), bx) := by
  have hmax := smL_max hl
  have o1 := op_why_Check l hmax
  have oaw := op_awake
  have hln := ens_length l
  obtain ⟨tn, hen⟩ := ENs
  obtain ⟨tu, htu⟩ := VLs
  obtain ⟨tk, hky⟩ := KYs
  obtain ⟨tc, hcs⟩ := CSs
  by_cases hc : ckE l 0 0 = 0
  · have o2 := op_why_Trim l hl n
    have o3 := op_why_Check (trT l n) (trT_max hmax n)
    have hd : ckE (trT l n) 0 0 = 0 := ckE_drop _ (Int.le_refl _) (Int.le_refl _) hc
    rw [hc] at o1
    rw [hd] at o3
    have o4 := op_Chain l no hl
    have hcl := chT_length l no
    have hloop1 := fun v0 e bx => loop_keep1 _ rfl (chT l no) (by omega) v0 (fun i a b ha hb => by
      have h1 := chT_next (l := l) no.toNat no (Nat.le_refl _) i a b ha hb
      exact ckE_order hc a (chT_mem (l := l) no.toNat no (Nat.le_refl _) a (List.mem_of_getElem? ha)) b (chT_mem (l := l) no.toNat no (Nat.le_refl _) b (List.mem_of_getElem? hb)) h1.2) (chT l no).length 1 e bx (by omega) (by omega) (by omega)
    have hloop2 := fun e bx => loop_keep2 _ rfl l hmax 11 0 e bx rfl
    have hs : sumK l 11 = l.length := sumK_all (fun e he => (ckE_all hc e he).2.2)
    rw [hs] at hloop2
    have h00 : sumK l 0 = 0 := rfl
    rw [h00] at hloop2
    have hbe : ((l.length : Int) == (l.length : Int)) = true := by simp
    generalize ens (chT l no) = ys at *
    generalize ens (trT l n) = zs at *
    rw [callL_enter (fn := Tryd.f8) (c := Tryd.f8.body.getD .skip) rfl rfl fat_L56_WhyKeeps rfl ok_L56_WhyKeeps (Nat.le_of_ble_eq_true rfl)]
    generalize ens l = xs at *
    generalize l.length = len at *
    obtain ⟨ev, eo, so, co, ⟨hev, hco⟩, R⟩ := RULES CC; rw [← hev]
    rw [← hev] at hloop1 hloop2
    rw [← hco] at o1 o2 o3 o4 oaw
    simp only [fpart, part', Tryd.f8, Option.getD] at hloop1 hloop2 ⊢
    simp (maxSteps := 5000000) only [SA, SB, SD, R, guardAt, binP, intP, indexAddrP, elemsOf, readCells, lenP, lenAt, resultsP, resultP, oneOr, reduceCtorEq, reduceIte, Nat.reduceEqDiff, Nat.reduceAdd, Nat.zero_add, Nat.reduceMul, Nat.reduceLT, Nat.reduceLeDiff, Int.reduceLT, Int.reduceNeg, Int.reduceLE, appendP, appendAt, letGo, setLoc, locVal, Int.reduceToNat, boxCells, und, TG, SE, SC, ENf, List.getElem?_concat_length, List.getElem?_cons_zero, List.getElem?_cons_succ, List.take_nil, unP, hen, htu, hky, hcs, loadR, loadP, storeR, storeK, storeCellsP, laid, lay, setBox, ss1, List.length_cons, List.length_nil, Nat.le_refl, Option.map_some, List.take_succ_cons, List.take_zero, List.drop_succ_cons, List.drop_zero, List.drop_nil, List.filter_nil, List.nil_append, List.cons_append, Int.reduceBEq, Int.reduceBNe, Int.reduceGT, Int.reduceGE, Bool.not_true, Bool.not_false, o1, o2, o3, o4, oaw]
    generalize hE : ev (Code.loop _) _ = z
    have hP : PCn 0 0 [] (.sl xs) z := by
      rw [← hE]
      refine hloop1 _ _ _ ?_ ?_ ?_
      all_goals first | (simp (maxSteps := 5000000) only [SA, SB, SD, R, guardAt, binP, intP, indexAddrP, elemsOf, readCells, lenP, lenAt, resultsP, resultP, oneOr, reduceCtorEq, reduceIte, Nat.reduceEqDiff, Nat.reduceAdd, Nat.zero_add, Nat.reduceMul, Nat.reduceLT, Nat.reduceLeDiff, Int.reduceLT, Int.reduceNeg, Int.reduceLE, appendP, appendAt, letGo, setLoc, locVal, Int.reduceToNat, boxCells, und]; done) | (simp (maxSteps := 5000000) only [SA, SB, SD, R, guardAt, binP, intP, indexAddrP, elemsOf, readCells, lenP, lenAt, resultsP, resultP, oneOr, reduceCtorEq, reduceIte, Nat.reduceEqDiff, Nat.reduceAdd, Nat.zero_add, Nat.reduceMul, Nat.reduceLT, Nat.reduceLeDiff, Int.reduceLT, Int.reduceNeg, Int.reduceLE, appendP, appendAt, letGo, setLoc, locVal, Int.reduceToNat, boxCells, und]; rfl)
    obtain ⟨e', ex, he, q⟩ := hP
    subst he
    simp (maxSteps := 5000000) only [SA, SB, SD, R, guardAt, binP, intP, indexAddrP, elemsOf, readCells, lenP, lenAt, resultsP, resultP, oneOr, reduceCtorEq, reduceIte, Nat.reduceEqDiff, Nat.reduceAdd, Nat.zero_add, Nat.reduceMul, Nat.reduceLT, Nat.reduceLeDiff, Int.reduceLT, Int.reduceNeg, Int.reduceLE, appendP, appendAt, letGo, setLoc, locVal, Int.reduceToNat, boxCells, und, TG, SE, SC, ENf, List.getElem?_concat_length, List.getElem?_cons_zero, List.getElem?_cons_succ, List.take_nil, unP, hen, htu, hky, hcs, loadR, loadP, storeR, storeK, storeCellsP, laid, lay, setBox, ss1, List.length_cons, List.length_nil, Nat.le_refl, Option.map_some, List.take_succ_cons, List.take_zero, List.drop_succ_cons, List.drop_zero, List.drop_nil, List.filter_nil, List.nil_append, List.cons_append, Int.reduceBEq, Int.reduceBNe, Int.reduceGT, Int.reduceGE, Bool.not_true, Bool.not_false, oaw, q]
    generalize hE2 : ev (Code.loop _) _ = z2
    have hP2 : PKs ([] ++ ex) len (.sl xs) z2 := by
      rw [← hE2]
      refine hloop2 _ _ ?_ ?_ ?_
      all_goals first | (simp (maxSteps := 5000000) only [SA, SB, SD, R, guardAt, binP, intP, indexAddrP, elemsOf, readCells, lenP, lenAt, resultsP, resultP, oneOr, reduceCtorEq, reduceIte, Nat.reduceEqDiff, Nat.reduceAdd, Nat.zero_add, Nat.reduceMul, Nat.reduceLT, Nat.reduceLeDiff, Int.reduceLT, Int.reduceNeg, Int.reduceLE, appendP, appendAt, letGo, setLoc, locVal, Int.reduceToNat, boxCells, und, q]; done) | (simp (maxSteps := 5000000) only [SA, SB, SD, R, guardAt, binP, intP, indexAddrP, elemsOf, readCells, lenP, lenAt, resultsP, resultP, oneOr, reduceCtorEq, reduceIte, Nat.reduceEqDiff, Nat.reduceAdd, Nat.zero_add, Nat.reduceMul, Nat.reduceLT, Nat.reduceLeDiff, Int.reduceLT, Int.reduceNeg, Int.reduceLE, appendP, appendAt, letGo, setLoc, locVal, Int.reduceToNat, boxCells, und, q]; rfl)
    obtain ⟨e2, ex2, he2, q9, q0⟩ := hP2
    subst he2
    simp (maxSteps := 5000000) only [SA, SB, SD, R, guardAt, binP, intP, indexAddrP, elemsOf, readCells, lenP, lenAt, resultsP, resultP, oneOr, reduceCtorEq, reduceIte, Nat.reduceEqDiff, Nat.reduceAdd, Nat.zero_add, Nat.reduceMul, Nat.reduceLT, Nat.reduceLeDiff, Int.reduceLT, Int.reduceNeg, Int.reduceLE, appendP, appendAt, letGo, setLoc, locVal, Int.reduceToNat, boxCells, und, TG, SE, SC, ENf, List.getElem?_concat_length, List.getElem?_cons_zero, List.getElem?_cons_succ, List.take_nil, unP, hen, htu, hky, hcs, loadR, loadP, storeR, storeK, storeCellsP, laid, lay, setBox, ss1, List.length_cons, List.length_nil, Nat.le_refl, Option.map_some, List.take_succ_cons, List.take_zero, List.drop_succ_cons, List.drop_zero, List.drop_nil, List.filter_nil, List.nil_append, List.cons_append, Int.reduceBEq, Int.reduceBNe, Int.reduceGT, Int.reduceGE, Bool.not_true, Bool.not_false, oaw, q9, q0, hln, hbe]
    exact ⟨_, rfl⟩
  · have hcp : (ckE l 0 0 != 0) = true := by simpa using hc
    generalize ckE l 0 0 = v at *
    rw [callL_enter (fn := Tryd.f8) (c := Tryd.f8.body.getD .skip) rfl rfl fat_L56_WhyKeeps rfl ok_L56_WhyKeeps (Nat.le_of_ble_eq_true rfl)]
    generalize ens l = xs at *
    obtain ⟨ev, eo, so, co, ⟨hev, hco⟩, R⟩ := RULES CC; rw [← hev]
    rw [← hco] at o1 oaw
    simp only [fpart, part', Tryd.f8, Option.getD]
    simp (maxSteps := 5000000) only [SA, SB, SD, R, guardAt, binP, intP, indexAddrP, elemsOf, readCells, lenP, lenAt, resultsP, resultP, oneOr, reduceCtorEq, reduceIte, Nat.reduceEqDiff, Nat.reduceAdd, Nat.zero_add, Nat.reduceMul, Nat.reduceLT, Nat.reduceLeDiff, Int.reduceLT, Int.reduceNeg, Int.reduceLE, appendP, appendAt, letGo, setLoc, locVal, Int.reduceToNat, boxCells, und, TG, SE, SC, ENf, List.getElem?_concat_length, List.getElem?_cons_zero, List.getElem?_cons_succ, List.take_nil, unP, hen, htu, hky, hcs, loadR, loadP, storeR, storeK, storeCellsP, laid, lay, setBox, ss1, List.length_cons, List.length_nil, Nat.le_refl, Option.map_some, List.take_succ_cons, List.take_zero, List.drop_succ_cons, List.drop_zero, List.drop_nil, List.filter_nil, List.nil_append, List.cons_append, Int.reduceBEq, Int.reduceBNe, Int.reduceGT, Int.reduceGE, Bool.not_true, Bool.not_false, o1, oaw, hcp]
    exact ⟨_, rfl⟩
end Go.HH
