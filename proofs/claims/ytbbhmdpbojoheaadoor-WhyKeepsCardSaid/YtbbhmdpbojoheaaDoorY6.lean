/-
  Logs: Trim in the specification; equal logs; the law of Trim and Count.
-/
import Derived.Test.YtbbhmdpbojoheaaDoorY5
namespace Go.HH
open Go Go.Proofs
set_option maxRecDepth 100000
set_option maxHeartbeats 4000000
set_option linter.unusedSimpArgs false
set_option linter.unusedVariables false
/-- the entries from a position on -/
def trF : List En → Nat → Nat → List En
  | [], _, _ => []
  | e :: r, i, t => if t ≤ i then e :: trF r (i + 1) t else trF r (i + 1) t
theorem trF_drop : ∀ (l : List En) (i t : Nat), trF l i t = l.drop (t - i)
  | [], i, t => by simp [trF]
  | e :: r, i, t => by
    unfold trF
    rw [trF_drop r (i + 1) t]
    by_cases h : t ≤ i
    · rw [if_pos h]
      have h1 : t - i = 0 := by omega
      have h2 : t - (i + 1) = 0 := by omega
      rw [h1, h2]; rfl
    · rw [if_neg h]
      have h1 : t - i = (t - (i + 1)) + 1 := by omega
      rw [h1]; rfl
theorem ens_append (a b : List En) : ens (a ++ b) = ens a ++ ens b := by unfold ens; rw [List.map_append]
theorem loop_rtr (L : Code) (hL : L = fpart Tryd.f22 [1,1,0,1,0]) (l : List En) (hs : smL l) (n : Int) (hn : inI n) (t : Nat) (ht : trN l.length n = t) : ∀ (k i : Nat) (acc : List En) (e : List PV) (bx : List PBox), i + k = l.length → acc.length ≤ i →
    getT e 0 = .sl (ens l) → getT e 1 = .int .i64 n → getT e 6 = .int .i64 i → getT e 5 = .osl 34 (ens acc) → PCn 0 5 bx (.osl 34 (ens (acc ++ trF (l.drop i) i t))) (evL CC L ⟨e, bx⟩) := by
  have hl := smL_max hs
  intro k
  induction k with
  | zero =>
    intro i acc e bx hi0 hac e0 e1 e6 e5
    rw [evL_at (fpart Tryd.f22 [1,1,0,1,0,0]) hL]
    have hi : ¬ ((i : Int) < (l.length : Int)) := by omega
    have hln := ens_length l
    rw [List.drop_eq_nil_of_le (by omega)]
    unfold trF
    rw [List.append_nil]
    obtain ⟨tn, hen⟩ := ENs
    obtain ⟨tu, htu⟩ := VLs
    obtain ⟨tk, hky⟩ := KYs
    obtain ⟨tc, hcs⟩ := CSs
    generalize ens l = xs at *
    generalize ens acc = ys at *
    obtain ⟨ev, eo, so, co, ⟨hev, hco⟩, R⟩ := RULES CC; rw [← hev]
    simp only [fpart, part', Tryd.f22, Option.getD]
    simp (maxSteps := 5000000) only [SA, SB, SD, R, guardAt, binP, intP, indexAddrP, elemsOf, readCells, lenP, lenAt, resultsP, resultP, oneOr, reduceCtorEq, reduceIte, Nat.reduceEqDiff, Nat.reduceAdd, Nat.zero_add, Nat.reduceMul, Nat.reduceLT, Nat.reduceLeDiff, Int.reduceLT, Int.reduceNeg, Int.reduceLE, appendP, appendAt, letGo, setLoc, locVal, Int.reduceToNat, boxCells, und, TG, SE, SC, ENf, List.getElem?_concat_length, List.getElem?_cons_zero, List.getElem?_cons_succ, List.take_nil, unP, hen, htu, hky, hcs, loadR, loadP, storeR, storeK, storeCellsP, laid, lay, setBox, ss1, apEn, bsEn, minP2, maxP2, sliceP, elemsOf, boundO, List.length_cons, List.length_nil, Nat.le_refl, Option.map_some, List.take_succ_cons, List.take_zero, List.drop_succ_cons, List.drop_zero, List.drop_nil, List.filter_nil, List.nil_append, List.cons_append, Int.reduceBEq, Int.reduceBNe, Int.reduceGT, Int.reduceGE, Bool.not_true, Bool.not_false, e0, e1, e6, e5, hi, hln]
    exact ⟨_, [], by rw [List.append_nil], by simp (maxSteps := 5000000) only [SA, SB, SD, R, guardAt, binP, intP, indexAddrP, elemsOf, readCells, lenP, lenAt, resultsP, resultP, oneOr, reduceCtorEq, reduceIte, Nat.reduceEqDiff, Nat.reduceAdd, Nat.zero_add, Nat.reduceMul, Nat.reduceLT, Nat.reduceLeDiff, Int.reduceLT, Int.reduceNeg, Int.reduceLE, appendP, appendAt, letGo, setLoc, locVal, Int.reduceToNat, boxCells, und, e0, e1, e6, e5]⟩
  | succ k ih =>
    intro i acc e bx hi0 hac e0 e1 e6 e5
    rw [evL_at (fpart Tryd.f22 [1,1,0,1,0,0]) hL]
    have hi : ((i : Int) < (l.length : Int)) := by omega
    have hi0' : ¬ ((i : Int) < 0) := by omega
    have hdr : l.drop i = (l[i]'(by omega)) :: l.drop (i + 1) := List.drop_eq_getElem_cons (by omega)
    have hx := ens_get (l := l) (i := i) (e := l[i]'(by omega)) (List.getElem?_eq_getElem (by omega))
    have hw1 := wrap_i64 (n := (i : Int) + 1) ⟨by omega, by simp only [maxLen] at hl; omega⟩
    have cast1 : ((i + 1 : Nat) : Int) = (i : Int) + 1 := by omega
    have key := fun acc e bx h => ih (i + 1) acc e bx (by omega) h
    rw [cast1] at key
    rw [hdr]
    unfold trF
    have hln := ens_length l
    generalize l[i]'(by omega) = x at *
    generalize hrest : trF (l.drop (i + 1)) (i + 1) t = rest at *
    have hk1 := fun e bx => key (acc ++ [x]) e bx (by rw [List.length_append, List.length_singleton]; omega)
    have hk2 := fun e bx => key acc e bx (by omega)
    have hap : ens (acc ++ [x]) = ens acc ++ [enV x] := by rw [ens_append]; rfl
    rw [hap] at hk1
    have hapk := fun st al lo d => apK_en (st := st) (al := al) (l := lo) (d := d) (xs := ens acc) (ys := [enV x]) (by rw [ens_length]; unfold smL at hs; simp only [List.length_singleton]; omega) rfl
    have hgl : acc ++ x :: rest = acc ++ [x] ++ rest := by simp
    clear key
    by_cases p : n > 0
    · have hw3 := wrap_i64 (n := (l.length : Int) - n) ⟨by unfold inI at hn; omega, by simp only [maxLen] at hl; omega⟩
      by_cases q : (i : Int) ≥ (l.length : Int) - n
      · rw [if_pos (by rw [← ht]; unfold trN; split; omega; split; omega; omega), hgl]
        obtain ⟨xno, xtk, xk, xkey, xval, xca, xpar⟩ := x
        unfold enV at hx hk1 hapk
        simp only at hx hk1 hapk
        generalize ens l = xs at *
        generalize ens acc = ys at *
        obtain ⟨tn, hen⟩ := ENs
        obtain ⟨tu, htu⟩ := VLs
        obtain ⟨tk, hky⟩ := KYs
        obtain ⟨tc, hcs⟩ := CSs
        obtain ⟨ev, eo, so, co, ⟨hev, hco⟩, R⟩ := RULES CC; rw [← hev]
        rw [← hev] at hk1
        simp only [fpart, part', Tryd.f22, Option.getD]
        simp (maxSteps := 5000000) only [SA, SB, SD, R, guardAt, binP, intP, indexAddrP, elemsOf, readCells, lenP, lenAt, resultsP, resultP, oneOr, reduceCtorEq, reduceIte, Nat.reduceEqDiff, Nat.reduceAdd, Nat.zero_add, Nat.reduceMul, Nat.reduceLT, Nat.reduceLeDiff, Int.reduceLT, Int.reduceNeg, Int.reduceLE, appendP, appendAt, letGo, setLoc, locVal, Int.reduceToNat, boxCells, und, TG, SE, SC, ENf, List.getElem?_concat_length, List.getElem?_cons_zero, List.getElem?_cons_succ, List.take_nil, unP, hen, htu, hky, hcs, loadR, loadP, storeR, storeK, storeCellsP, laid, lay, setBox, ss1, apEn, bsEn, minP2, maxP2, sliceP, elemsOf, boundO, List.length_cons, List.length_nil, Nat.le_refl, Option.map_some, List.take_succ_cons, List.take_zero, List.drop_succ_cons, List.drop_zero, List.drop_nil, List.filter_nil, List.nil_append, List.cons_append, Int.reduceBEq, Int.reduceBNe, Int.reduceGT, Int.reduceGE, Bool.not_true, Bool.not_false, e0, e1, e6, e5, hi, hi0', hx, hln, hw1, hw3, p, q, hapk]
        refine hk1 _ _ ?_ ?_ ?_ ?_
        all_goals simp (maxSteps := 5000000) only [SA, SB, SD, R, guardAt, binP, intP, indexAddrP, elemsOf, readCells, lenP, lenAt, resultsP, resultP, oneOr, reduceCtorEq, reduceIte, Nat.reduceEqDiff, Nat.reduceAdd, Nat.zero_add, Nat.reduceMul, Nat.reduceLT, Nat.reduceLeDiff, Int.reduceLT, Int.reduceNeg, Int.reduceLE, appendP, appendAt, letGo, setLoc, locVal, Int.reduceToNat, boxCells, und, e0, e1, e6, e5]
      · rw [if_neg (by rw [← ht]; unfold trN; split; omega; split; omega; omega)]
        obtain ⟨xno, xtk, xk, xkey, xval, xca, xpar⟩ := x
        unfold enV at hx
        simp only at hx
        generalize ens l = xs at *
        generalize ens acc = ys at *
        obtain ⟨tn, hen⟩ := ENs
        obtain ⟨tu, htu⟩ := VLs
        obtain ⟨tk, hky⟩ := KYs
        obtain ⟨tc, hcs⟩ := CSs
        obtain ⟨ev, eo, so, co, ⟨hev, hco⟩, R⟩ := RULES CC; rw [← hev]
        rw [← hev] at hk2
        simp only [fpart, part', Tryd.f22, Option.getD]
        simp (maxSteps := 5000000) only [SA, SB, SD, R, guardAt, binP, intP, indexAddrP, elemsOf, readCells, lenP, lenAt, resultsP, resultP, oneOr, reduceCtorEq, reduceIte, Nat.reduceEqDiff, Nat.reduceAdd, Nat.zero_add, Nat.reduceMul, Nat.reduceLT, Nat.reduceLeDiff, Int.reduceLT, Int.reduceNeg, Int.reduceLE, appendP, appendAt, letGo, setLoc, locVal, Int.reduceToNat, boxCells, und, TG, SE, SC, ENf, List.getElem?_concat_length, List.getElem?_cons_zero, List.getElem?_cons_succ, List.take_nil, unP, hen, htu, hky, hcs, loadR, loadP, storeR, storeK, storeCellsP, laid, lay, setBox, ss1, apEn, bsEn, minP2, maxP2, sliceP, elemsOf, boundO, List.length_cons, List.length_nil, Nat.le_refl, Option.map_some, List.take_succ_cons, List.take_zero, List.drop_succ_cons, List.drop_zero, List.drop_nil, List.filter_nil, List.nil_append, List.cons_append, Int.reduceBEq, Int.reduceBNe, Int.reduceGT, Int.reduceGE, Bool.not_true, Bool.not_false, e0, e1, e6, e5, hi, hi0', hx, hln, hw1, hw3, p, q]
        refine hk2 _ _ ?_ ?_ ?_ ?_
        all_goals simp (maxSteps := 5000000) only [SA, SB, SD, R, guardAt, binP, intP, indexAddrP, elemsOf, readCells, lenP, lenAt, resultsP, resultP, oneOr, reduceCtorEq, reduceIte, Nat.reduceEqDiff, Nat.reduceAdd, Nat.zero_add, Nat.reduceMul, Nat.reduceLT, Nat.reduceLeDiff, Int.reduceLT, Int.reduceNeg, Int.reduceLE, appendP, appendAt, letGo, setLoc, locVal, Int.reduceToNat, boxCells, und, e0, e1, e6, e5]
    · rw [if_neg (by rw [← ht]; unfold trN; split; omega; omega)]
      obtain ⟨xno, xtk, xk, xkey, xval, xca, xpar⟩ := x
      unfold enV at hx
      simp only at hx
      generalize ens l = xs at *
      generalize ens acc = ys at *
      obtain ⟨tn, hen⟩ := ENs
      obtain ⟨tu, htu⟩ := VLs
      obtain ⟨tk, hky⟩ := KYs
      obtain ⟨tc, hcs⟩ := CSs
      obtain ⟨ev, eo, so, co, ⟨hev, hco⟩, R⟩ := RULES CC; rw [← hev]
      rw [← hev] at hk2
      simp only [fpart, part', Tryd.f22, Option.getD]
      simp (maxSteps := 5000000) only [SA, SB, SD, R, guardAt, binP, intP, indexAddrP, elemsOf, readCells, lenP, lenAt, resultsP, resultP, oneOr, reduceCtorEq, reduceIte, Nat.reduceEqDiff, Nat.reduceAdd, Nat.zero_add, Nat.reduceMul, Nat.reduceLT, Nat.reduceLeDiff, Int.reduceLT, Int.reduceNeg, Int.reduceLE, appendP, appendAt, letGo, setLoc, locVal, Int.reduceToNat, boxCells, und, TG, SE, SC, ENf, List.getElem?_concat_length, List.getElem?_cons_zero, List.getElem?_cons_succ, List.take_nil, unP, hen, htu, hky, hcs, loadR, loadP, storeR, storeK, storeCellsP, laid, lay, setBox, ss1, apEn, bsEn, minP2, maxP2, sliceP, elemsOf, boundO, List.length_cons, List.length_nil, Nat.le_refl, Option.map_some, List.take_succ_cons, List.take_zero, List.drop_succ_cons, List.drop_zero, List.drop_nil, List.filter_nil, List.nil_append, List.cons_append, Int.reduceBEq, Int.reduceBNe, Int.reduceGT, Int.reduceGE, Bool.not_true, Bool.not_false, e0, e1, e6, e5, hi, hi0', hx, hln, hw1, p]
      refine hk2 _ _ ?_ ?_ ?_ ?_
      all_goals simp (maxSteps := 5000000) only [SA, SB, SD, R, guardAt, binP, intP, indexAddrP, elemsOf, readCells, lenP, lenAt, resultsP, resultP, oneOr, reduceCtorEq, reduceIte, Nat.reduceEqDiff, Nat.reduceAdd, Nat.zero_add, Nat.reduceMul, Nat.reduceLT, Nat.reduceLeDiff, Int.reduceLT, Int.reduceNeg, Int.reduceLE, appendP, appendAt, letGo, setLoc, locVal, Int.reduceToNat, boxCells, und, e0, e1, e6, e5]
theorem call_R56_Trim (l : List En) (hl : smL l) (n : Int) (hn : inI n) : ∃ bx, callL CC 22 [.sl (ens l), .int .i64 n] [] = some (.ret (.sl (ens (trT l n))), bx) := by
  have hloop := fun e bx => loop_rtr _ rfl l hl n hn _ rfl l.length 0 [] e bx (by omega) (Nat.le_refl _)
  have hln := ens_length l
  rw [List.drop_zero, List.nil_append, trF_drop, Nat.sub_zero] at hloop
  unfold trT
  generalize l.drop (trN l.length n) = ys at *
  obtain ⟨tn, hen⟩ := ENs
  obtain ⟨tu, htu⟩ := VLs
  obtain ⟨tk, hky⟩ := KYs
  obtain ⟨tc, hcs⟩ := CSs
  rw [callL_enter (fn := Tryd.f22) (c := Tryd.f22.body.getD .skip) rfl rfl fat_R56_Trim rfl ok_R56_Trim (Nat.le_of_ble_eq_true rfl)]
  generalize ens l = xs at *
  generalize ens ys = zs at *
  have hnil : nilV CC 22 = .osl 34 [] := by kernel_rfl
  obtain ⟨ev, eo, so, co, ⟨hev, hco⟩, R⟩ := RULES CC; rw [← hev]
  rw [← hev] at hloop
  simp only [fpart, part', Tryd.f22, Option.getD] at hloop ⊢
  simp (maxSteps := 5000000) only [SA, SB, SD, R, guardAt, binP, intP, indexAddrP, elemsOf, readCells, lenP, lenAt, resultsP, resultP, oneOr, reduceCtorEq, reduceIte, Nat.reduceEqDiff, Nat.reduceAdd, Nat.zero_add, Nat.reduceMul, Nat.reduceLT, Nat.reduceLeDiff, Int.reduceLT, Int.reduceNeg, Int.reduceLE, appendP, appendAt, letGo, setLoc, locVal, Int.reduceToNat, boxCells, und, TG, SE, SC, ENf, List.getElem?_concat_length, List.getElem?_cons_zero, List.getElem?_cons_succ, List.take_nil, unP, hen, htu, hky, hcs, loadR, loadP, storeR, storeK, storeCellsP, laid, lay, setBox, ss1, apEn, bsEn, minP2, maxP2, sliceP, elemsOf, boundO, List.length_cons, List.length_nil, Nat.le_refl, Option.map_some, List.take_succ_cons, List.take_zero, List.drop_succ_cons, List.drop_zero, List.drop_nil, List.filter_nil, List.nil_append, List.cons_append, Int.reduceBEq, Int.reduceBNe, Int.reduceGT, Int.reduceGE, Bool.not_true, Bool.not_false, hln, hnil]
  generalize hE : ev (Code.loop _) _ = z
  have hP : PCn 0 5 [] (.osl 34 zs) z := by
    rw [← hE]
    refine hloop _ _ ?_ ?_ ?_ ?_
    all_goals first | (simp (maxSteps := 5000000) only [SA, SB, SD, R, guardAt, binP, intP, indexAddrP, elemsOf, readCells, lenP, lenAt, resultsP, resultP, oneOr, reduceCtorEq, reduceIte, Nat.reduceEqDiff, Nat.reduceAdd, Nat.zero_add, Nat.reduceMul, Nat.reduceLT, Nat.reduceLeDiff, Int.reduceLT, Int.reduceNeg, Int.reduceLE, appendP, appendAt, letGo, setLoc, locVal, Int.reduceToNat, boxCells, und]; done) | (simp (maxSteps := 5000000) only [SA, SB, SD, R, guardAt, binP, intP, indexAddrP, elemsOf, readCells, lenP, lenAt, resultsP, resultP, oneOr, reduceCtorEq, reduceIte, Nat.reduceEqDiff, Nat.reduceAdd, Nat.zero_add, Nat.reduceMul, Nat.reduceLT, Nat.reduceLeDiff, Int.reduceLT, Int.reduceNeg, Int.reduceLE, appendP, appendAt, letGo, setLoc, locVal, Int.reduceToNat, boxCells, und]; rfl)
  obtain ⟨e', ex, he, q⟩ := hP
  subst he
  simp (maxSteps := 5000000) only [SA, SB, SD, R, guardAt, binP, intP, indexAddrP, elemsOf, readCells, lenP, lenAt, resultsP, resultP, oneOr, reduceCtorEq, reduceIte, Nat.reduceEqDiff, Nat.reduceAdd, Nat.zero_add, Nat.reduceMul, Nat.reduceLT, Nat.reduceLeDiff, Int.reduceLT, Int.reduceNeg, Int.reduceLE, appendP, appendAt, letGo, setLoc, locVal, Int.reduceToNat, boxCells, und, TG, SE, SC, ENf, List.getElem?_concat_length, List.getElem?_cons_zero, List.getElem?_cons_succ, List.take_nil, unP, hen, htu, hky, hcs, loadR, loadP, storeR, storeK, storeCellsP, laid, lay, setBox, ss1, apEn, bsEn, minP2, maxP2, sliceP, elemsOf, boundO, List.length_cons, List.length_nil, Nat.le_refl, Option.map_some, List.take_succ_cons, List.take_zero, List.drop_succ_cons, List.drop_zero, List.drop_nil, List.filter_nil, List.nil_append, List.cons_append, Int.reduceBEq, Int.reduceBNe, Int.reduceGT, Int.reduceGE, Bool.not_true, Bool.not_false, hln, q, hnil]
  exact ⟨_, rfl⟩
theorem op_R56_Trim (l : List En) (hl : smL l) (n : Int) (hn : inI n) (bx) : callOp CC (callL CC) 22 [.sl (ens l), .int .i64 n] bx = some (.ret (.sl (ens (trT l n))), bx) := by
  obtain ⟨b, h⟩ := call_R56_Trim l hl n hn
  exact callOp_of rfl (by simp only [pureL, PV.pure, ens_pure, Bool.and_self]) h (by simp only [PV.pure, ens_pure])
def and3 (x y : Option Bool) : Option Bool := match x with
  | some true => y
  | o => o
theorem and2_some (x y : Bool) : and2 x (some y) = some (x && y) := by cases x <;> rfl
theorem and3_some (x y : Bool) : and3 (some x) (some y) = some (x && y) := by cases x <;> rfl
def eqKy (v w : Ky) : Bool := (v.1 == w.1) && ((v.2.1 == w.2.1) && (v.2.2 == w.2.2))
/-- equal entries -/
def eqEn (a b : En) : Bool := (a.no == b.no) && ((a.tick == b.tick) && ((a.kind == b.kind) && ((eqKy a.key b.key) && (((a.val.1 == b.val.1) && ((a.val.2.1 == b.val.2.1) && (a.val.2.2 == b.val.2.2))) && (((a.cause.1 == b.cause.1) && ((a.cause.2.1 == b.cause.2.1) && (a.cause.2.2 == b.cause.2.2))) && (a.par == b.par))))))
theorem eqEP (a b : En) : eqP CC 100 34 (enV a) (enV b) = some (eqEn a b) := by
  have h : eqP CC 100 34 (enV a) (enV b) = and2 (a.no == b.no) (and2 (a.tick == b.tick) (and2 (a.kind == b.kind) (and3 (and2 (a.key.1 == b.key.1) (and2 (a.key.2.1 == b.key.2.1) (and2 (a.key.2.2 == b.key.2.2) (some true)))) (and3 (and2 (a.val.1 == b.val.1) (and2 (a.val.2.1 == b.val.2.1) (and2 (a.val.2.2 == b.val.2.2) (some true)))) (and3 (and2 (a.cause.1 == b.cause.1) (and2 (a.cause.2.1 == b.cause.2.1) (and2 (a.cause.2.2 == b.cause.2.2) (some true)))) (and2 (a.par == b.par) (some true))))))) := by kernel_rfl
  rw [h]
  simp only [and2_some, and3_some, Bool.and_true, eqEn, eqKy]
theorem eqgEn : CC.P.eqGuardType CC.P.depth 34 = false := by kernel_rfl
theorem eqEn_refl (a : En) : eqEn a a = true := by simp [eqEn, eqKy]
theorem eqEn_P (a : En) (c d : List PV) (hc : enV a = .agg c) (hd : enV a = .agg d) : eqP CC 100 34 (.agg c) (.agg d) = some true := by rw [← hc, ← hd, eqEP, eqEn_refl]
/-- a log is the same as itself -/
theorem loop_same (L : Code) (hL : L = fpart Tryd.f14 [1,1,0,1,0]) (l : List En) (hl : l.length ≤ maxLen) : ∀ (k i : Nat) (e : List PV) (bx : List PBox), i + k = l.length →
    getT e 0 = .sl (ens l) → getT e 1 = .sl (ens l) → getT e 5 = .int .i64 i → PCn 0 0 bx (.sl (ens l)) (evL CC L ⟨e, bx⟩) := by
  intro k
  induction k with
  | zero =>
    intro i e bx hi0 e0 e1 e5
    rw [evL_at (fpart Tryd.f14 [1,1,0,1,0,0]) hL]
    have hi : ¬ ((i : Int) < (l.length : Int)) := by omega
    have hln := ens_length l
    obtain ⟨tn, hen⟩ := ENs
    obtain ⟨tu, htu⟩ := VLs
    obtain ⟨tk, hky⟩ := KYs
    obtain ⟨tc, hcs⟩ := CSs
    generalize ens l = xs at *
    obtain ⟨ev, eo, so, co, ⟨hev, hco⟩, R⟩ := RULES CC; rw [← hev]
    simp only [fpart, part', Tryd.f14, Option.getD]
    simp (maxSteps := 5000000) only [SA, SB, SD, R, guardAt, binP, intP, indexAddrP, elemsOf, readCells, lenP, lenAt, resultsP, resultP, oneOr, reduceCtorEq, reduceIte, Nat.reduceEqDiff, Nat.reduceAdd, Nat.zero_add, Nat.reduceMul, Nat.reduceLT, Nat.reduceLeDiff, Int.reduceLT, Int.reduceNeg, Int.reduceLE, appendP, appendAt, letGo, setLoc, locVal, Int.reduceToNat, boxCells, und, TG, SE, SC, ENf, List.getElem?_concat_length, List.getElem?_cons_zero, List.getElem?_cons_succ, List.take_nil, unP, hen, htu, hky, hcs, loadR, loadP, storeR, storeK, storeCellsP, laid, lay, setBox, ss1, apEn, bsEn, minP2, maxP2, sliceP, elemsOf, boundO, List.length_cons, List.length_nil, Nat.le_refl, Option.map_some, List.take_succ_cons, List.take_zero, List.drop_succ_cons, List.drop_zero, List.drop_nil, List.filter_nil, List.nil_append, List.cons_append, Int.reduceBEq, Int.reduceBNe, Int.reduceGT, Int.reduceGE, Bool.not_true, Bool.not_false, e0, e1, e5, hi, hln]
    exact ⟨_, [], by rw [List.append_nil], by simp (maxSteps := 5000000) only [SA, SB, SD, R, guardAt, binP, intP, indexAddrP, elemsOf, readCells, lenP, lenAt, resultsP, resultP, oneOr, reduceCtorEq, reduceIte, Nat.reduceEqDiff, Nat.reduceAdd, Nat.zero_add, Nat.reduceMul, Nat.reduceLT, Nat.reduceLeDiff, Int.reduceLT, Int.reduceNeg, Int.reduceLE, appendP, appendAt, letGo, setLoc, locVal, Int.reduceToNat, boxCells, und, e0, e1, e5]⟩
  | succ k ih =>
    intro i e bx hi0 e0 e1 e5
    rw [evL_at (fpart Tryd.f14 [1,1,0,1,0,0]) hL]
    have hi : ((i : Int) < (l.length : Int)) := by omega
    have hi0' : ¬ ((i : Int) < 0) := by omega
    have hdr : l.drop i = (l[i]'(by omega)) :: l.drop (i + 1) := List.drop_eq_getElem_cons (by omega)
    have hx := ens_get (l := l) (i := i) (e := l[i]'(by omega)) (List.getElem?_eq_getElem (by omega))
    have hw1 := wrap_i64 (n := (i : Int) + 1) ⟨by omega, by simp only [maxLen] at hl; omega⟩
    have cast1 : ((i + 1 : Nat) : Int) = (i : Int) + 1 := by omega
    have key := fun e bx => ih (i + 1) e bx (by omega)
    rw [cast1] at key
    have hln := ens_length l
    generalize l[i]'(by omega) = x at *
    have heq := eqEn_P x _ _ rfl rfl
    obtain ⟨xno, xtk, xk, xkey, xval, xca, xpar⟩ := x
    unfold enV at hx
    simp only at hx heq
    generalize ens l = xs at *
    obtain ⟨tn, hen⟩ := ENs
    obtain ⟨tu, htu⟩ := VLs
    obtain ⟨tk, hky⟩ := KYs
    obtain ⟨tc, hcs⟩ := CSs
    obtain ⟨ev, eo, so, co, ⟨hev, hco⟩, R⟩ := RULES CC; rw [← hev]
    rw [← hev] at key
    simp only [fpart, part', Tryd.f14, Option.getD]
    simp (maxSteps := 5000000) only [SA, SB, SD, R, guardAt, binP, intP, indexAddrP, elemsOf, readCells, lenP, lenAt, resultsP, resultP, oneOr, reduceCtorEq, reduceIte, Nat.reduceEqDiff, Nat.reduceAdd, Nat.zero_add, Nat.reduceMul, Nat.reduceLT, Nat.reduceLeDiff, Int.reduceLT, Int.reduceNeg, Int.reduceLE, appendP, appendAt, letGo, setLoc, locVal, Int.reduceToNat, boxCells, und, TG, SE, SC, ENf, List.getElem?_concat_length, List.getElem?_cons_zero, List.getElem?_cons_succ, List.take_nil, unP, hen, htu, hky, hcs, loadR, loadP, storeR, storeK, storeCellsP, laid, lay, setBox, ss1, apEn, bsEn, minP2, maxP2, sliceP, elemsOf, boundO, List.length_cons, List.length_nil, Nat.le_refl, Option.map_some, List.take_succ_cons, List.take_zero, List.drop_succ_cons, List.drop_zero, List.drop_nil, List.filter_nil, List.nil_append, List.cons_append, Int.reduceBEq, Int.reduceBNe, Int.reduceGT, Int.reduceGE, Bool.not_true, Bool.not_false, e0, e1, e5, hi, hi0', hx, hln, hw1, heq, eqgEn]
    refine key _ _ ?_ ?_ ?_
    all_goals simp (maxSteps := 5000000) only [SA, SB, SD, R, guardAt, binP, intP, indexAddrP, elemsOf, readCells, lenP, lenAt, resultsP, resultP, oneOr, reduceCtorEq, reduceIte, Nat.reduceEqDiff, Nat.reduceAdd, Nat.zero_add, Nat.reduceMul, Nat.reduceLT, Nat.reduceLeDiff, Int.reduceLT, Int.reduceNeg, Int.reduceLE, appendP, appendAt, letGo, setLoc, locVal, Int.reduceToNat, boxCells, und, e0, e1, e5]
theorem call_same (l : List En) (hl : l.length ≤ maxLen) : ∃ bx, callL CC 14 [.sl (ens l), .sl (ens l)] [] = some (.ret (.bool true), bx) := by
  have hloop := fun e bx => loop_same _ rfl l hl l.length 0 e bx (by omega)
  have hln := ens_length l
  obtain ⟨tn, hen⟩ := ENs
  obtain ⟨tu, htu⟩ := VLs
  obtain ⟨tk, hky⟩ := KYs
  obtain ⟨tc, hcs⟩ := CSs
  rw [callL_enter (fn := Tryd.f14) (c := Tryd.f14.body.getD .skip) rfl rfl fat_L56_same rfl ok_L56_same (Nat.le_of_ble_eq_true rfl)]
  generalize ens l = xs at *
  have hne : ((l.length : Int) != (l.length : Int)) = false := by simp
  obtain ⟨ev, eo, so, co, ⟨hev, hco⟩, R⟩ := RULES CC; rw [← hev]
  rw [← hev] at hloop
  simp only [fpart, part', Tryd.f14, Option.getD] at hloop ⊢
  simp (maxSteps := 5000000) only [SA, SB, SD, R, guardAt, binP, intP, indexAddrP, elemsOf, readCells, lenP, lenAt, resultsP, resultP, oneOr, reduceCtorEq, reduceIte, Nat.reduceEqDiff, Nat.reduceAdd, Nat.zero_add, Nat.reduceMul, Nat.reduceLT, Nat.reduceLeDiff, Int.reduceLT, Int.reduceNeg, Int.reduceLE, appendP, appendAt, letGo, setLoc, locVal, Int.reduceToNat, boxCells, und, TG, SE, SC, ENf, List.getElem?_concat_length, List.getElem?_cons_zero, List.getElem?_cons_succ, List.take_nil, unP, hen, htu, hky, hcs, loadR, loadP, storeR, storeK, storeCellsP, laid, lay, setBox, ss1, apEn, bsEn, minP2, maxP2, sliceP, elemsOf, boundO, List.length_cons, List.length_nil, Nat.le_refl, Option.map_some, List.take_succ_cons, List.take_zero, List.drop_succ_cons, List.drop_zero, List.drop_nil, List.filter_nil, List.nil_append, List.cons_append, Int.reduceBEq, Int.reduceBNe, Int.reduceGT, Int.reduceGE, Bool.not_true, Bool.not_false, hln, hne]
  generalize hE : ev (Code.loop _) _ = z
  have hP : PCn 0 0 [] (.sl xs) z := by
    rw [← hE]
    refine hloop _ _ ?_ ?_ ?_
    all_goals first | (simp (maxSteps := 5000000) only [SA, SB, SD, R, guardAt, binP, intP, indexAddrP, elemsOf, readCells, lenP, lenAt, resultsP, resultP, oneOr, reduceCtorEq, reduceIte, Nat.reduceEqDiff, Nat.reduceAdd, Nat.zero_add, Nat.reduceMul, Nat.reduceLT, Nat.reduceLeDiff, Int.reduceLT, Int.reduceNeg, Int.reduceLE, appendP, appendAt, letGo, setLoc, locVal, Int.reduceToNat, boxCells, und]; done) | (simp (maxSteps := 5000000) only [SA, SB, SD, R, guardAt, binP, intP, indexAddrP, elemsOf, readCells, lenP, lenAt, resultsP, resultP, oneOr, reduceCtorEq, reduceIte, Nat.reduceEqDiff, Nat.reduceAdd, Nat.zero_add, Nat.reduceMul, Nat.reduceLT, Nat.reduceLeDiff, Int.reduceLT, Int.reduceNeg, Int.reduceLE, appendP, appendAt, letGo, setLoc, locVal, Int.reduceToNat, boxCells, und]; rfl)
  obtain ⟨e', ex, he, q⟩ := hP
  subst he
  simp (maxSteps := 5000000) only [SA, SB, SD, R, guardAt, binP, intP, indexAddrP, elemsOf, readCells, lenP, lenAt, resultsP, resultP, oneOr, reduceCtorEq, reduceIte, Nat.reduceEqDiff, Nat.reduceAdd, Nat.zero_add, Nat.reduceMul, Nat.reduceLT, Nat.reduceLeDiff, Int.reduceLT, Int.reduceNeg, Int.reduceLE, appendP, appendAt, letGo, setLoc, locVal, Int.reduceToNat, boxCells, und, TG, SE, SC, ENf, List.getElem?_concat_length, List.getElem?_cons_zero, List.getElem?_cons_succ, List.take_nil, unP, hen, htu, hky, hcs, loadR, loadP, storeR, storeK, storeCellsP, laid, lay, setBox, ss1, apEn, bsEn, minP2, maxP2, sliceP, elemsOf, boundO, List.length_cons, List.length_nil, Nat.le_refl, Option.map_some, List.take_succ_cons, List.take_zero, List.drop_succ_cons, List.drop_zero, List.drop_nil, List.filter_nil, List.nil_append, List.cons_append, Int.reduceBEq, Int.reduceBNe, Int.reduceGT, Int.reduceGE, Bool.not_true, Bool.not_false, hln, q]
  exact ⟨_, rfl⟩
theorem op_same (l : List En) (hl : l.length ≤ maxLen) (bx) : callOp CC (callL CC) 14 [.sl (ens l), .sl (ens l)] bx = some (.ret (.bool true), bx) := by
  obtain ⟨b, h⟩ := call_same l hl
  exact callOp_of rfl (by simp only [pureL, PV.pure, ens_pure, Bool.and_self]) h rfl
theorem trT_max {l : List En} (h : l.length ≤ maxLen) (n : Int) : (trT l n).length ≤ maxLen := by unfold trT; rw [List.length_drop]; omega
theorem law_WhyTrims (l : List En) (hl : smL l) (n : Int) (hn : inI n) (kd : Int) (hk : inI kd) : ∃ bx, callL CC 7 [.sl (ens l), .int .i64 n, .int .i64 kd] [] = some (.ret (.bool true), bx) := by
  have hmax := smL_max hl
  have o1 := op_why_Trim l hl n
  have o2 := op_R56_Trim l hl n hn
  have o3 := op_same (trT l n) (trT_max hmax n)
  have o4 := op_why_Count l hmax kd
  have o5 := op_R56_Count l hmax kd
  have oaw := op_awake
  have hp := ens_pure l
  have hp2 := ens_pure (trT l n)
  generalize cnT l kd = v at *
  generalize ens (trT l n) = ys at *
  obtain ⟨tn, hen⟩ := ENs
  obtain ⟨tu, htu⟩ := VLs
  obtain ⟨tk, hky⟩ := KYs
  obtain ⟨tc, hcs⟩ := CSs
  rw [callL_enter (fn := Tryd.f7) (c := Tryd.f7.body.getD .skip) rfl rfl fat_L56_WhyTrims rfl ok_L56_WhyTrims (Nat.le_of_ble_eq_true rfl)]
  generalize ens l = xs at *
  obtain ⟨ev, eo, so, co, ⟨hev, hco⟩, R⟩ := RULES CC; rw [← hev]
  rw [← hco] at o1 o2 o3 o4 o5 oaw
  simp only [fpart, part', Tryd.f7, Option.getD]
  simp (maxSteps := 5000000) only [SA, SB, SD, R, guardAt, binP, intP, indexAddrP, elemsOf, readCells, lenP, lenAt, resultsP, resultP, oneOr, reduceCtorEq, reduceIte, Nat.reduceEqDiff, Nat.reduceAdd, Nat.zero_add, Nat.reduceMul, Nat.reduceLT, Nat.reduceLeDiff, Int.reduceLT, Int.reduceNeg, Int.reduceLE, appendP, appendAt, letGo, setLoc, locVal, Int.reduceToNat, boxCells, und, TG, SE, SC, ENf, List.getElem?_concat_length, List.getElem?_cons_zero, List.getElem?_cons_succ, List.take_nil, unP, hen, htu, hky, hcs, loadR, loadP, storeR, storeK, storeCellsP, laid, lay, setBox, ss1, apEn, bsEn, minP2, maxP2, sliceP, elemsOf, boundO, List.length_cons, List.length_nil, Nat.le_refl, Option.map_some, List.take_succ_cons, List.take_zero, List.drop_succ_cons, List.drop_zero, List.drop_nil, List.filter_nil, List.nil_append, List.cons_append, Int.reduceBEq, Int.reduceBNe, Int.reduceGT, Int.reduceGE, Bool.not_true, Bool.not_false, o1, o2, o3, o4, o5, oaw, hp, hp2, beq_self_eq_true]
  exact ⟨_, rfl⟩
end Go.HH
