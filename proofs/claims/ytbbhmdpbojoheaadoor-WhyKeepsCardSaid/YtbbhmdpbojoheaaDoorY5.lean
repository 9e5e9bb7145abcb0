/-
  Logs: Count and Trim, in the program and in the specification; equal logs.
-/
import Derived.Test.YtbbhmdpbojoheaaDoorY4
namespace Go.HH
open Go Go.Proofs
set_option maxRecDepth 100000
set_option maxHeartbeats 4000000
set_option linter.unusedSimpArgs false
set_option linter.unusedVariables false
noncomputable def IEn : TypeInfo := (Tryd.prog.info? 34).getD default
theorem apEn (st : St) (al : List (Nat × Loc)) (s x : Operand) (d : Option Tmp) : appendOn CC st al s x 22 22 d = match appendAt CC st al 34 s, elemsOf (opd CC st.env x) with
      | some (l, xs), some ys => appK 136 13 34 st al l xs ys d
      | _, _ => none := appendOn_eq (i := IEn) (by kernel_rfl) (by kernel_rfl) (by kernel_rfl) (z := (IEn.zero).getD default) (by kernel_rfl) (by kernel_rfl) (by rw [show IEn.size = 13 from by kernel_rfl]; decide) (by kernel_rfl) (by kernel_rfl)
theorem apK_en {st : St} {al : List (Nat × Loc)} {l : Option Loc} {xs ys : List PV} {d : Option Tmp} (h : (xs.length + ys.length) * 136 ≤ 140737488355328) (hy : (ys.all fun y => y.cells.length == 13) = true) :
    appK 136 13 34 st al l xs ys d = some (.next ((letGo st l xs).put d (.osl 34 (xs ++ ys))) (killT al d)) := by
  unfold appK
  rw [if_neg]
  rintro (h1 | h1 | h1)
  · unfold sizeCap at h1; omega
  · unfold sizeCap at h1; omega
  · rw [hy] at h1; cases h1
theorem bsEn (a b c d g h j m n : Int) (e f i k : List UInt8) : buildSliceP CC 22 1 [(0, .agg [.int .i64 a, .int .i64 b, .int .i64 c, .int .i64 d, .str e, .str f, .int .i64 g, .int .i64 h, .str i, .int .i64 j, .str k, .int .i64 m, .int .i64 n])] = some (.osl 34 [.agg [.int .i64 a, .int .i64 b, .int .i64 c, .int .i64 d, .str e, .str f, .int .i64 g, .int .i64 h, .str i, .int .i64 j, .str k, .int .i64 m, .int .i64 n]]) := by
  have hz : tZero CC 34 = some (.agg [.int .i64 0, .int .i64 0, .int .i64 0, .int .i64 0, .str [], .str [], .int .i64 0, .int .i64 0, .str [], .int .i64 0, .str [], .int .i64 0, .int .i64 0]) := by kernel_rfl
  have hi : CC.P.info? 34 = some IEn := by kernel_rfl
  have hs : IEn.size = 13 := by kernel_rfl
  have hu : CC.P.underlying 22 = some (.slice 34) := by kernel_rfl
  have ht : tAgg CC 34 = true := by kernel_rfl
  have hp : sealNew true 13 (.agg [.int .i64 a, .int .i64 b, .int .i64 c, .int .i64 d, .str e, .str f, .int .i64 g, .int .i64 h, .str i, .int .i64 j, .str k, .int .i64 m, .int .i64 n]) = some (.agg [.int .i64 a, .int .i64 b, .int .i64 c, .int .i64 d, .str e, .str f, .int .i64 g, .int .i64 h, .str i, .int .i64 j, .str k, .int .i64 m, .int .i64 n]) := rfl
  unfold buildSliceP
  simp only [hu, hz, hi, hs, ht, List.foldlM_cons, List.foldlM_nil, hp]
  rfl
/-- a loop that went through, with a number in a temporary -/
def PCn (j t : Nat) (bx : List PBox) (v : PV) (res : Option (Ex × St)) : Prop := ∃ e' ex, res = some (.exit j, ⟨e', bx ++ ex⟩) ∧ getT e' t = v
theorem PCn.app {j t : Nat} {bx : List PBox} {x : PBox} {v : PV} {res : Option (Ex × St)} (h : PCn j t (bx ++ [x]) v res) : PCn j t bx v res := by
  obtain ⟨e', ex, h⟩ := h
  refine ⟨e', [x] ++ ex, ?_⟩
  rw [← List.append_assoc]
  exact h
theorem loop_why_Count (L : Code) (hL : L = fpart Tryd.f23 [1,1,0,1,0]) (l : List En) (hl : l.length ≤ maxLen) (kd : Int) : ∀ (k i : Nat) (n : Nat) (e : List PV) (bx : List PBox), i + k = l.length → n ≤ i →
    getT e 8 = .sl (ens l) → getT e 9 = .int .i64 l.length → getT e 10 = .int .i64 i → getT e 5 = .int .i64 n → getT e 1 = .int .i64 kd → PCn 0 5 bx (.int .i64 (n + cnT (l.drop i) kd : Nat)) (evL CC L ⟨e, bx⟩) := by
  intro k
  induction k with
  | zero =>
    intro i n e bx hi0 hni e8 e9 e10 e5 e1
    rw [evL_at (fpart Tryd.f23 [1,1,0,1,0,0]) hL]
    have hi : ¬ ((i : Int) < (l.length : Int)) := by omega
    have hln := ens_length l
    rw [List.drop_eq_nil_of_le (by omega)]
    unfold cnT
    obtain ⟨tn, hen⟩ := ENs
    obtain ⟨tu, htu⟩ := VLs
    obtain ⟨tk, hky⟩ := KYs
    obtain ⟨tc, hcs⟩ := CSs
    generalize ens l = xs at *
    obtain ⟨ev, eo, so, co, ⟨hev, hco⟩, R⟩ := RULES CC; rw [← hev]
    simp only [fpart, part', Tryd.f23, Option.getD]
    simp (maxSteps := 5000000) only [SA, SB, SD, R, guardAt, binP, intP, indexAddrP, elemsOf, readCells, lenP, lenAt, resultsP, resultP, oneOr, reduceCtorEq, reduceIte, Nat.reduceEqDiff, Nat.reduceAdd, Nat.zero_add, Nat.reduceMul, Nat.reduceLT, Nat.reduceLeDiff, Int.reduceLT, Int.reduceNeg, Int.reduceLE, appendP, appendAt, letGo, setLoc, locVal, Int.reduceToNat, boxCells, und, TG, SE, SC, ENf, List.getElem?_concat_length, List.getElem?_cons_zero, List.getElem?_cons_succ, List.take_nil, unP, hen, htu, hky, hcs, loadR, loadP, storeR, storeK, storeCellsP, laid, lay, setBox, ss1, apEn, bsEn, minP2, maxP2, sliceP, elemsOf, boundO, List.length_cons, List.length_nil, Nat.le_refl, Option.map_some, List.take_succ_cons, List.take_zero, List.drop_succ_cons, List.drop_zero, List.drop_nil, List.filter_nil, List.nil_append, List.cons_append, Int.reduceBEq, Int.reduceBNe, Int.reduceGT, Int.reduceGE, Bool.not_true, Bool.not_false, e8, e9, e10, e5, e1, hi, hln]
    exact ⟨_, [], by rw [List.append_nil], by simp (maxSteps := 5000000) only [SA, SB, SD, R, guardAt, binP, intP, indexAddrP, elemsOf, readCells, lenP, lenAt, resultsP, resultP, oneOr, reduceCtorEq, reduceIte, Nat.reduceEqDiff, Nat.reduceAdd, Nat.zero_add, Nat.reduceMul, Nat.reduceLT, Nat.reduceLeDiff, Int.reduceLT, Int.reduceNeg, Int.reduceLE, appendP, appendAt, letGo, setLoc, locVal, Int.reduceToNat, boxCells, und, e8, e9, e10, e5, e1]; rfl⟩
  | succ k ih =>
    intro i n e bx hi0 hni e8 e9 e10 e5 e1
    rw [evL_at (fpart Tryd.f23 [1,1,0,1,0,0]) hL]
    have hi : ((i : Int) < (l.length : Int)) := by omega
    have hi0' : ¬ ((i : Int) < 0) := by omega
    have hdr : l.drop i = (l[i]'(by omega)) :: l.drop (i + 1) := List.drop_eq_getElem_cons (by omega)
    have hx := ens_get (l := l) (i := i) (e := l[i]'(by omega)) (List.getElem?_eq_getElem (by omega))
    have hw1 := wrap_i64 (n := (i : Int) + 1) ⟨by omega, by simp only [maxLen] at hl; omega⟩
    have cast1 : ((i + 1 : Nat) : Int) = (i : Int) + 1 := by omega
    have hw2 := wrap_i64 (n := (n : Int) + 1) ⟨by omega, by simp only [maxLen] at hl; omega⟩
    have key := fun n e bx h => ih (i + 1) n e bx (by omega) h
    rw [cast1] at key
    rw [hdr]
    unfold cnT
    have hln := ens_length l
    generalize l[i]'(by omega) = x at *
    generalize hrest : cnT (l.drop (i + 1)) kd = rest at *
    obtain ⟨xno, xtk, xk, xkey, xval, xca, xpar⟩ := x
    unfold enV at hx
    simp only at hx ⊢
    generalize ens l = xs at *
    obtain ⟨tn, hen⟩ := ENs
    obtain ⟨tu, htu⟩ := VLs
    obtain ⟨tk, hky⟩ := KYs
    obtain ⟨tc, hcs⟩ := CSs
    by_cases c : xk = kd
    · have cp : (xk == kd) = true := by simpa using c
      have key := fun e bx => key (n + 1) e bx (by omega)
      have cast2 : ((n + 1 : Nat) : Int) = (n : Int) + 1 := by omega
      have ev1 : n + ((if xk = kd then 1 else 0) + rest) = n + 1 + rest := by rw [if_pos c]; omega
      rw [ev1]
      rw [cast2] at key
      apply PCn.app
      obtain ⟨ev, eo, so, co, ⟨hev, hco⟩, R⟩ := RULES CC; rw [← hev]
      rw [← hev] at key
      simp only [fpart, part', Tryd.f23, Option.getD]
      simp (maxSteps := 5000000) only [SA, SB, SD, R, guardAt, binP, intP, indexAddrP, elemsOf, readCells, lenP, lenAt, resultsP, resultP, oneOr, reduceCtorEq, reduceIte, Nat.reduceEqDiff, Nat.reduceAdd, Nat.zero_add, Nat.reduceMul, Nat.reduceLT, Nat.reduceLeDiff, Int.reduceLT, Int.reduceNeg, Int.reduceLE, appendP, appendAt, letGo, setLoc, locVal, Int.reduceToNat, boxCells, und, TG, SE, SC, ENf, List.getElem?_concat_length, List.getElem?_cons_zero, List.getElem?_cons_succ, List.take_nil, unP, hen, htu, hky, hcs, loadR, loadP, storeR, storeK, storeCellsP, laid, lay, setBox, ss1, apEn, bsEn, minP2, maxP2, sliceP, elemsOf, boundO, List.length_cons, List.length_nil, Nat.le_refl, Option.map_some, List.take_succ_cons, List.take_zero, List.drop_succ_cons, List.drop_zero, List.drop_nil, List.filter_nil, List.nil_append, List.cons_append, Int.reduceBEq, Int.reduceBNe, Int.reduceGT, Int.reduceGE, Bool.not_true, Bool.not_false, e8, e9, e10, e5, e1, hi, hi0', hx, hln, hw1, hw2, cp]
      refine key _ _ ?_ ?_ ?_ ?_ ?_
      all_goals simp (maxSteps := 5000000) only [SA, SB, SD, R, guardAt, binP, intP, indexAddrP, elemsOf, readCells, lenP, lenAt, resultsP, resultP, oneOr, reduceCtorEq, reduceIte, Nat.reduceEqDiff, Nat.reduceAdd, Nat.zero_add, Nat.reduceMul, Nat.reduceLT, Nat.reduceLeDiff, Int.reduceLT, Int.reduceNeg, Int.reduceLE, appendP, appendAt, letGo, setLoc, locVal, Int.reduceToNat, boxCells, und, e8, e9, e10, e5, e1]
    · have cp : (xk == kd) = false := by simpa using c
      have key := fun e bx => key n e bx (by omega)
      have ev1 : n + ((if xk = kd then 1 else 0) + rest) = n + rest := by rw [if_neg c]; omega
      rw [ev1]
      apply PCn.app
      obtain ⟨ev, eo, so, co, ⟨hev, hco⟩, R⟩ := RULES CC; rw [← hev]
      rw [← hev] at key
      simp only [fpart, part', Tryd.f23, Option.getD]
      simp (maxSteps := 5000000) only [SA, SB, SD, R, guardAt, binP, intP, indexAddrP, elemsOf, readCells, lenP, lenAt, resultsP, resultP, oneOr, reduceCtorEq, reduceIte, Nat.reduceEqDiff, Nat.reduceAdd, Nat.zero_add, Nat.reduceMul, Nat.reduceLT, Nat.reduceLeDiff, Int.reduceLT, Int.reduceNeg, Int.reduceLE, appendP, appendAt, letGo, setLoc, locVal, Int.reduceToNat, boxCells, und, TG, SE, SC, ENf, List.getElem?_concat_length, List.getElem?_cons_zero, List.getElem?_cons_succ, List.take_nil, unP, hen, htu, hky, hcs, loadR, loadP, storeR, storeK, storeCellsP, laid, lay, setBox, ss1, apEn, bsEn, minP2, maxP2, sliceP, elemsOf, boundO, List.length_cons, List.length_nil, Nat.le_refl, Option.map_some, List.take_succ_cons, List.take_zero, List.drop_succ_cons, List.drop_zero, List.drop_nil, List.filter_nil, List.nil_append, List.cons_append, Int.reduceBEq, Int.reduceBNe, Int.reduceGT, Int.reduceGE, Bool.not_true, Bool.not_false, e8, e9, e10, e5, e1, hi, hi0', hx, hln, hw1, hw2, cp]
      refine key _ _ ?_ ?_ ?_ ?_ ?_
      all_goals simp (maxSteps := 5000000) only [SA, SB, SD, R, guardAt, binP, intP, indexAddrP, elemsOf, readCells, lenP, lenAt, resultsP, resultP, oneOr, reduceCtorEq, reduceIte, Nat.reduceEqDiff, Nat.reduceAdd, Nat.zero_add, Nat.reduceMul, Nat.reduceLT, Nat.reduceLeDiff, Int.reduceLT, Int.reduceNeg, Int.reduceLE, appendP, appendAt, letGo, setLoc, locVal, Int.reduceToNat, boxCells, und, e8, e9, e10, e5, e1]
theorem call_why_Count (l : List En) (hl : l.length ≤ maxLen) (kd : Int) : ∃ bx, callL CC 23 [.sl (ens l), .int .i64 kd] [] = some (.ret (.int .i64 (cnT l kd)), bx) := by
  have hloop := fun e bx => loop_why_Count _ rfl l hl kd l.length 0 0 e bx (by omega) (Nat.le_refl _)
  have hln := ens_length l
  rw [List.drop_zero, Nat.zero_add] at hloop
  generalize cnT l kd = v at *
  obtain ⟨tn, hen⟩ := ENs
  obtain ⟨tu, htu⟩ := VLs
  obtain ⟨tk, hky⟩ := KYs
  obtain ⟨tc, hcs⟩ := CSs
  rw [callL_enter (fn := Tryd.f23) (c := Tryd.f23.body.getD .skip) rfl rfl fat_why_Count rfl ok_why_Count (Nat.le_of_ble_eq_true rfl)]
  generalize ens l = xs at *
  obtain ⟨ev, eo, so, co, ⟨hev, hco⟩, R⟩ := RULES CC; rw [← hev]
  rw [← hev] at hloop
  simp only [fpart, part', Tryd.f23, Option.getD] at hloop ⊢
  simp (maxSteps := 5000000) only [SA, SB, SD, R, guardAt, binP, intP, indexAddrP, elemsOf, readCells, lenP, lenAt, resultsP, resultP, oneOr, reduceCtorEq, reduceIte, Nat.reduceEqDiff, Nat.reduceAdd, Nat.zero_add, Nat.reduceMul, Nat.reduceLT, Nat.reduceLeDiff, Int.reduceLT, Int.reduceNeg, Int.reduceLE, appendP, appendAt, letGo, setLoc, locVal, Int.reduceToNat, boxCells, und, TG, SE, SC, ENf, List.getElem?_concat_length, List.getElem?_cons_zero, List.getElem?_cons_succ, List.take_nil, unP, hen, htu, hky, hcs, loadR, loadP, storeR, storeK, storeCellsP, laid, lay, setBox, ss1, apEn, bsEn, minP2, maxP2, sliceP, elemsOf, boundO, List.length_cons, List.length_nil, Nat.le_refl, Option.map_some, List.take_succ_cons, List.take_zero, List.drop_succ_cons, List.drop_zero, List.drop_nil, List.filter_nil, List.nil_append, List.cons_append, Int.reduceBEq, Int.reduceBNe, Int.reduceGT, Int.reduceGE, Bool.not_true, Bool.not_false, hln]
  generalize hE : ev (Code.loop _) _ = z
  have hP : PCn 0 5 [] (.int .i64 v) z := by
    rw [← hE]
    refine hloop _ _ ?_ ?_ ?_ ?_ ?_
    all_goals first | (simp (maxSteps := 5000000) only [SA, SB, SD, R, guardAt, binP, intP, indexAddrP, elemsOf, readCells, lenP, lenAt, resultsP, resultP, oneOr, reduceCtorEq, reduceIte, Nat.reduceEqDiff, Nat.reduceAdd, Nat.zero_add, Nat.reduceMul, Nat.reduceLT, Nat.reduceLeDiff, Int.reduceLT, Int.reduceNeg, Int.reduceLE, appendP, appendAt, letGo, setLoc, locVal, Int.reduceToNat, boxCells, und]; done) | (simp (maxSteps := 5000000) only [SA, SB, SD, R, guardAt, binP, intP, indexAddrP, elemsOf, readCells, lenP, lenAt, resultsP, resultP, oneOr, reduceCtorEq, reduceIte, Nat.reduceEqDiff, Nat.reduceAdd, Nat.zero_add, Nat.reduceMul, Nat.reduceLT, Nat.reduceLeDiff, Int.reduceLT, Int.reduceNeg, Int.reduceLE, appendP, appendAt, letGo, setLoc, locVal, Int.reduceToNat, boxCells, und]; rfl)
  obtain ⟨e', ex, he, q⟩ := hP
  subst he
  simp (maxSteps := 5000000) only [SA, SB, SD, R, guardAt, binP, intP, indexAddrP, elemsOf, readCells, lenP, lenAt, resultsP, resultP, oneOr, reduceCtorEq, reduceIte, Nat.reduceEqDiff, Nat.reduceAdd, Nat.zero_add, Nat.reduceMul, Nat.reduceLT, Nat.reduceLeDiff, Int.reduceLT, Int.reduceNeg, Int.reduceLE, appendP, appendAt, letGo, setLoc, locVal, Int.reduceToNat, boxCells, und, TG, SE, SC, ENf, List.getElem?_concat_length, List.getElem?_cons_zero, List.getElem?_cons_succ, List.take_nil, unP, hen, htu, hky, hcs, loadR, loadP, storeR, storeK, storeCellsP, laid, lay, setBox, ss1, apEn, bsEn, minP2, maxP2, sliceP, elemsOf, boundO, List.length_cons, List.length_nil, Nat.le_refl, Option.map_some, List.take_succ_cons, List.take_zero, List.drop_succ_cons, List.drop_zero, List.drop_nil, List.filter_nil, List.nil_append, List.cons_append, Int.reduceBEq, Int.reduceBNe, Int.reduceGT, Int.reduceGE, Bool.not_true, Bool.not_false, hln, q]
  exact ⟨_, rfl⟩
theorem op_why_Count (l : List En) (hl : l.length ≤ maxLen) (kd : Int) (bx) : callOp CC (callL CC) 23 [.sl (ens l), .int .i64 kd] bx = some (.ret (.int .i64 (cnT l kd)), bx) := by
  obtain ⟨b, h⟩ := call_why_Count l hl kd
  exact callOp_of rfl (by simp only [pureL, PV.pure, ens_pure, Bool.and_self]) h rfl
theorem loop_R56_Count (L : Code) (hL : L = fpart Tryd.f24 [1,1,0,1,0]) (l : List En) (hl : l.length ≤ maxLen) (kd : Int) : ∀ (k i : Nat) (n : Nat) (e : List PV) (bx : List PBox), i + k = l.length → n ≤ i →
    getT e 0 = .sl (ens l) → getT e 6 = .int .i64 i → getT e 5 = .int .i64 n → getT e 1 = .int .i64 kd → PCn 0 5 bx (.int .i64 (n + cnT (l.drop i) kd : Nat)) (evL CC L ⟨e, bx⟩) := by
  intro k
  induction k with
  | zero =>
    intro i n e bx hi0 hni e0 e6 e5 e1
    rw [evL_at (fpart Tryd.f24 [1,1,0,1,0,0]) hL]
    have hi : ¬ ((i : Int) < (l.length : Int)) := by omega
    have hln := ens_length l
    rw [List.drop_eq_nil_of_le (by omega)]
    unfold cnT
    obtain ⟨tn, hen⟩ := ENs
    obtain ⟨tu, htu⟩ := VLs
    obtain ⟨tk, hky⟩ := KYs
    obtain ⟨tc, hcs⟩ := CSs
    generalize ens l = xs at *
    obtain ⟨ev, eo, so, co, ⟨hev, hco⟩, R⟩ := RULES CC; rw [← hev]
    simp only [fpart, part', Tryd.f24, Option.getD]
    simp (maxSteps := 5000000) only [SA, SB, SD, R, guardAt, binP, intP, indexAddrP, elemsOf, readCells, lenP, lenAt, resultsP, resultP, oneOr, reduceCtorEq, reduceIte, Nat.reduceEqDiff, Nat.reduceAdd, Nat.zero_add, Nat.reduceMul, Nat.reduceLT, Nat.reduceLeDiff, Int.reduceLT, Int.reduceNeg, Int.reduceLE, appendP, appendAt, letGo, setLoc, locVal, Int.reduceToNat, boxCells, und, TG, SE, SC, ENf, List.getElem?_concat_length, List.getElem?_cons_zero, List.getElem?_cons_succ, List.take_nil, unP, hen, htu, hky, hcs, loadR, loadP, storeR, storeK, storeCellsP, laid, lay, setBox, ss1, apEn, bsEn, minP2, maxP2, sliceP, elemsOf, boundO, List.length_cons, List.length_nil, Nat.le_refl, Option.map_some, List.take_succ_cons, List.take_zero, List.drop_succ_cons, List.drop_zero, List.drop_nil, List.filter_nil, List.nil_append, List.cons_append, Int.reduceBEq, Int.reduceBNe, Int.reduceGT, Int.reduceGE, Bool.not_true, Bool.not_false, e0, e6, e5, e1, hi, hln]
    exact ⟨_, [], by rw [List.append_nil], by simp (maxSteps := 5000000) only [SA, SB, SD, R, guardAt, binP, intP, indexAddrP, elemsOf, readCells, lenP, lenAt, resultsP, resultP, oneOr, reduceCtorEq, reduceIte, Nat.reduceEqDiff, Nat.reduceAdd, Nat.zero_add, Nat.reduceMul, Nat.reduceLT, Nat.reduceLeDiff, Int.reduceLT, Int.reduceNeg, Int.reduceLE, appendP, appendAt, letGo, setLoc, locVal, Int.reduceToNat, boxCells, und, e0, e6, e5, e1]; rfl⟩
  | succ k ih =>
    intro i n e bx hi0 hni e0 e6 e5 e1
    rw [evL_at (fpart Tryd.f24 [1,1,0,1,0,0]) hL]
    have hi : ((i : Int) < (l.length : Int)) := by omega
    have hi0' : ¬ ((i : Int) < 0) := by omega
    have hdr : l.drop i = (l[i]'(by omega)) :: l.drop (i + 1) := List.drop_eq_getElem_cons (by omega)
    have hx := ens_get (l := l) (i := i) (e := l[i]'(by omega)) (List.getElem?_eq_getElem (by omega))
    have hw1 := wrap_i64 (n := (i : Int) + 1) ⟨by omega, by simp only [maxLen] at hl; omega⟩
    have cast1 : ((i + 1 : Nat) : Int) = (i : Int) + 1 := by omega
    have hw2 := wrap_i64 (n := (n : Int) + 1) ⟨by omega, by simp only [maxLen] at hl; omega⟩
    have key := fun n e bx h => ih (i + 1) n e bx (by omega) h
    rw [cast1] at key
    rw [hdr]
    unfold cnT
    have hln := ens_length l
    generalize l[i]'(by omega) = x at *
    generalize hrest : cnT (l.drop (i + 1)) kd = rest at *
    obtain ⟨xno, xtk, xk, xkey, xval, xca, xpar⟩ := x
    unfold enV at hx
    simp only at hx ⊢
    generalize ens l = xs at *
    obtain ⟨tn, hen⟩ := ENs
    obtain ⟨tu, htu⟩ := VLs
    obtain ⟨tk, hky⟩ := KYs
    obtain ⟨tc, hcs⟩ := CSs
    by_cases c : xk = kd
    · have cp : (xk == kd) = true := by simpa using c
      have key := fun e bx => key (n + 1) e bx (by omega)
      have cast2 : ((n + 1 : Nat) : Int) = (n : Int) + 1 := by omega
      have ev1 : n + ((if xk = kd then 1 else 0) + rest) = n + 1 + rest := by rw [if_pos c]; omega
      rw [ev1]
      rw [cast2] at key
      obtain ⟨ev, eo, so, co, ⟨hev, hco⟩, R⟩ := RULES CC; rw [← hev]
      rw [← hev] at key
      simp only [fpart, part', Tryd.f24, Option.getD]
      simp (maxSteps := 5000000) only [SA, SB, SD, R, guardAt, binP, intP, indexAddrP, elemsOf, readCells, lenP, lenAt, resultsP, resultP, oneOr, reduceCtorEq, reduceIte, Nat.reduceEqDiff, Nat.reduceAdd, Nat.zero_add, Nat.reduceMul, Nat.reduceLT, Nat.reduceLeDiff, Int.reduceLT, Int.reduceNeg, Int.reduceLE, appendP, appendAt, letGo, setLoc, locVal, Int.reduceToNat, boxCells, und, TG, SE, SC, ENf, List.getElem?_concat_length, List.getElem?_cons_zero, List.getElem?_cons_succ, List.take_nil, unP, hen, htu, hky, hcs, loadR, loadP, storeR, storeK, storeCellsP, laid, lay, setBox, ss1, apEn, bsEn, minP2, maxP2, sliceP, elemsOf, boundO, List.length_cons, List.length_nil, Nat.le_refl, Option.map_some, List.take_succ_cons, List.take_zero, List.drop_succ_cons, List.drop_zero, List.drop_nil, List.filter_nil, List.nil_append, List.cons_append, Int.reduceBEq, Int.reduceBNe, Int.reduceGT, Int.reduceGE, Bool.not_true, Bool.not_false, e0, e6, e5, e1, hi, hi0', hx, hln, hw1, hw2, cp]
      refine key _ _ ?_ ?_ ?_ ?_
      all_goals simp (maxSteps := 5000000) only [SA, SB, SD, R, guardAt, binP, intP, indexAddrP, elemsOf, readCells, lenP, lenAt, resultsP, resultP, oneOr, reduceCtorEq, reduceIte, Nat.reduceEqDiff, Nat.reduceAdd, Nat.zero_add, Nat.reduceMul, Nat.reduceLT, Nat.reduceLeDiff, Int.reduceLT, Int.reduceNeg, Int.reduceLE, appendP, appendAt, letGo, setLoc, locVal, Int.reduceToNat, boxCells, und, e0, e6, e5, e1]
    · have cp : (xk == kd) = false := by simpa using c
      have key := fun e bx => key n e bx (by omega)
      have ev1 : n + ((if xk = kd then 1 else 0) + rest) = n + rest := by rw [if_neg c]; omega
      rw [ev1]
      obtain ⟨ev, eo, so, co, ⟨hev, hco⟩, R⟩ := RULES CC; rw [← hev]
      rw [← hev] at key
      simp only [fpart, part', Tryd.f24, Option.getD]
      simp (maxSteps := 5000000) only [SA, SB, SD, R, guardAt, binP, intP, indexAddrP, elemsOf, readCells, lenP, lenAt, resultsP, resultP, oneOr, reduceCtorEq, reduceIte, Nat.reduceEqDiff, Nat.reduceAdd, Nat.zero_add, Nat.reduceMul, Nat.reduceLT, Nat.reduceLeDiff, Int.reduceLT, Int.reduceNeg, Int.reduceLE, appendP, appendAt, letGo, setLoc, locVal, Int.reduceToNat, boxCells, und, TG, SE, SC, ENf, List.getElem?_concat_length, List.getElem?_cons_zero, List.getElem?_cons_succ, List.take_nil, unP, hen, htu, hky, hcs, loadR, loadP, storeR, storeK, storeCellsP, laid, lay, setBox, ss1, apEn, bsEn, minP2, maxP2, sliceP, elemsOf, boundO, List.length_cons, List.length_nil, Nat.le_refl, Option.map_some, List.take_succ_cons, List.take_zero, List.drop_succ_cons, List.drop_zero, List.drop_nil, List.filter_nil, List.nil_append, List.cons_append, Int.reduceBEq, Int.reduceBNe, Int.reduceGT, Int.reduceGE, Bool.not_true, Bool.not_false, e0, e6, e5, e1, hi, hi0', hx, hln, hw1, hw2, cp]
      refine key _ _ ?_ ?_ ?_ ?_
      all_goals simp (maxSteps := 5000000) only [SA, SB, SD, R, guardAt, binP, intP, indexAddrP, elemsOf, readCells, lenP, lenAt, resultsP, resultP, oneOr, reduceCtorEq, reduceIte, Nat.reduceEqDiff, Nat.reduceAdd, Nat.zero_add, Nat.reduceMul, Nat.reduceLT, Nat.reduceLeDiff, Int.reduceLT, Int.reduceNeg, Int.reduceLE, appendP, appendAt, letGo, setLoc, locVal, Int.reduceToNat, boxCells, und, e0, e6, e5, e1]
theorem call_R56_Count (l : List En) (hl : l.length ≤ maxLen) (kd : Int) : ∃ bx, callL CC 24 [.sl (ens l), .int .i64 kd] [] = some (.ret (.int .i64 (cnT l kd)), bx) := by
  have hloop := fun e bx => loop_R56_Count _ rfl l hl kd l.length 0 0 e bx (by omega) (Nat.le_refl _)
  have hln := ens_length l
  rw [List.drop_zero, Nat.zero_add] at hloop
  generalize cnT l kd = v at *
  obtain ⟨tn, hen⟩ := ENs
  obtain ⟨tu, htu⟩ := VLs
  obtain ⟨tk, hky⟩ := KYs
  obtain ⟨tc, hcs⟩ := CSs
  rw [callL_enter (fn := Tryd.f24) (c := Tryd.f24.body.getD .skip) rfl rfl fat_R56_Count rfl ok_R56_Count (Nat.le_of_ble_eq_true rfl)]
  generalize ens l = xs at *
  obtain ⟨ev, eo, so, co, ⟨hev, hco⟩, R⟩ := RULES CC; rw [← hev]
  rw [← hev] at hloop
  simp only [fpart, part', Tryd.f24, Option.getD] at hloop ⊢
  simp (maxSteps := 5000000) only [SA, SB, SD, R, guardAt, binP, intP, indexAddrP, elemsOf, readCells, lenP, lenAt, resultsP, resultP, oneOr, reduceCtorEq, reduceIte, Nat.reduceEqDiff, Nat.reduceAdd, Nat.zero_add, Nat.reduceMul, Nat.reduceLT, Nat.reduceLeDiff, Int.reduceLT, Int.reduceNeg, Int.reduceLE, appendP, appendAt, letGo, setLoc, locVal, Int.reduceToNat, boxCells, und, TG, SE, SC, ENf, List.getElem?_concat_length, List.getElem?_cons_zero, List.getElem?_cons_succ, List.take_nil, unP, hen, htu, hky, hcs, loadR, loadP, storeR, storeK, storeCellsP, laid, lay, setBox, ss1, apEn, bsEn, minP2, maxP2, sliceP, elemsOf, boundO, List.length_cons, List.length_nil, Nat.le_refl, Option.map_some, List.take_succ_cons, List.take_zero, List.drop_succ_cons, List.drop_zero, List.drop_nil, List.filter_nil, List.nil_append, List.cons_append, Int.reduceBEq, Int.reduceBNe, Int.reduceGT, Int.reduceGE, Bool.not_true, Bool.not_false, hln]
  generalize hE : ev (Code.loop _) _ = z
  have hP : PCn 0 5 [] (.int .i64 v) z := by
    rw [← hE]
    refine hloop _ _ ?_ ?_ ?_ ?_
    all_goals first | (simp (maxSteps := 5000000) only [SA, SB, SD, R, guardAt, binP, intP, indexAddrP, elemsOf, readCells, lenP, lenAt, resultsP, resultP, oneOr, reduceCtorEq, reduceIte, Nat.reduceEqDiff, Nat.reduceAdd, Nat.zero_add, Nat.reduceMul, Nat.reduceLT, Nat.reduceLeDiff, Int.reduceLT, Int.reduceNeg, Int.reduceLE, appendP, appendAt, letGo, setLoc, locVal, Int.reduceToNat, boxCells, und]; done) | (simp (maxSteps := 5000000) only [SA, SB, SD, R, guardAt, binP, intP, indexAddrP, elemsOf, readCells, lenP, lenAt, resultsP, resultP, oneOr, reduceCtorEq, reduceIte, Nat.reduceEqDiff, Nat.reduceAdd, Nat.zero_add, Nat.reduceMul, Nat.reduceLT, Nat.reduceLeDiff, Int.reduceLT, Int.reduceNeg, Int.reduceLE, appendP, appendAt, letGo, setLoc, locVal, Int.reduceToNat, boxCells, und]; rfl)
  obtain ⟨e', ex, he, q⟩ := hP
  subst he
  simp (maxSteps := 5000000) only [SA, SB, SD, R, guardAt, binP, intP, indexAddrP, elemsOf, readCells, lenP, lenAt, resultsP, resultP, oneOr, reduceCtorEq, reduceIte, Nat.reduceEqDiff, Nat.reduceAdd, Nat.zero_add, Nat.reduceMul, Nat.reduceLT, Nat.reduceLeDiff, Int.reduceLT, Int.reduceNeg, Int.reduceLE, appendP, appendAt, letGo, setLoc, locVal, Int.reduceToNat, boxCells, und, TG, SE, SC, ENf, List.getElem?_concat_length, List.getElem?_cons_zero, List.getElem?_cons_succ, List.take_nil, unP, hen, htu, hky, hcs, loadR, loadP, storeR, storeK, storeCellsP, laid, lay, setBox, ss1, apEn, bsEn, minP2, maxP2, sliceP, elemsOf, boundO, List.length_cons, List.length_nil, Nat.le_refl, Option.map_some, List.take_succ_cons, List.take_zero, List.drop_succ_cons, List.drop_zero, List.drop_nil, List.filter_nil, List.nil_append, List.cons_append, Int.reduceBEq, Int.reduceBNe, Int.reduceGT, Int.reduceGE, Bool.not_true, Bool.not_false, hln, q]
  exact ⟨_, rfl⟩
theorem op_R56_Count (l : List En) (hl : l.length ≤ maxLen) (kd : Int) (bx) : callOp CC (callL CC) 24 [.sl (ens l), .int .i64 kd] bx = some (.ret (.int .i64 (cnT l kd)), bx) := by
  obtain ⟨b, h⟩ := call_R56_Count l hl kd
  exact callOp_of rfl (by simp only [pureL, PV.pure, ens_pure, Bool.and_self]) h rfl
theorem call_Clone (l : List En) (h : l.length * 136 ≤ 140737488351232) (bx) : callL CC 37 [.sl (ens l)] bx = some (.ret (.sl (ens l)), bx) := by
  have hp : CC.prim 37 = some clP := rfl
  have hq : CC.hprim 37 = none := rfl
  unfold callL bodyP bodyQ
  simp only [hq, hp, pureL, PV.pure, ens_pure, Bool.and_self, if_true, clP_ens l h, Option.map_some]
theorem op_Clone (l : List En) (h : l.length * 136 ≤ 140737488351232) (bx) : callOp CC (callL CC) 37 [.sl (ens l)] bx = some (.ret (.sl (ens l)), bx) := callOp_of rfl (by simp only [pureL, PV.pure, ens_pure, Bool.and_self]) (call_Clone l h []) (by simp only [PV.pure, ens_pure])
theorem ens_drop (l : List En) (n : Nat) : (ens l).drop n = ens (l.drop n) := by unfold ens; rw [List.map_drop]
theorem ens_all (l : List En) : ((ens l).all fun v => v.cells.length == 13) = true := by
  rw [List.all_eq_true]
  intro x hx
  obtain ⟨e, _, rfl⟩ := List.mem_map.1 hx
  rfl
theorem sizeE : tSize CC 34 = some 13 := by kernel_rfl
theorem call_why_Trim (l : List En) (hl : smL l) (n : Int) : ∃ bx, callL CC 21 [.sl (ens l), .int .i64 n] [] = some (.ret (.sl (ens (trT l n))), bx) := by
  have hmax := smL_max hl
  have hln := ens_length l
  obtain ⟨m, hm⟩ : ∃ m : Nat, trN l.length n = m := ⟨_, rfl⟩
  have hmle : m ≤ l.length := by rw [← hm]; unfold trN; split; omega; split; omega; omega
  have hsub : (l.length : Int) - max 0 (min n (l.length : Int)) = (m : Int) := by rw [← hm]; unfold trN; split; omega; split; omega; omega
  have hw := wrap_i64 (n := (m : Int)) ⟨by omega, by simp only [maxLen] at hmax; omega⟩
  have hsl : sliceP CC 22 (.sl (ens l)) (some (.int .i64 (m : Int))) none = some (.sl (ens (l.drop m))) := by
    have h1 : boundO (ens l).length (ens l).length none = some (ens l).length := rfl
    have h2 : boundO (ens l).length 0 (some (.int .i64 (m : Int))) = some m := by
      show boundP (ens l).length (.int .i64 (m : Int)) = some m
      rw [hln]
      unfold boundP
      first | (rw [if_pos (by omega)]; simp) | (simp; omega) | simp [hmle]
    unfold sliceP
    simp only [elemsOf, sizeE, h1, h2, ens_all, or_true, if_true]
    have hu : CC.P.underlying 22 = some (.slice 34) := uEns
    simp only [hu, sizeE, h1, h2, ens_all, or_true, if_true, List.take_length, ens_drop]
  have hcl := op_Clone (l.drop m) (by unfold smL at hl; rw [List.length_drop]; omega)
  unfold trT
  rw [hm]
  generalize ens (l.drop m) = ys at *
  obtain ⟨tn, hen⟩ := ENs
  obtain ⟨tu, htu⟩ := VLs
  obtain ⟨tk, hky⟩ := KYs
  obtain ⟨tc, hcs⟩ := CSs
  rw [callL_enter (fn := Tryd.f21) (c := Tryd.f21.body.getD .skip) rfl rfl fat_why_Trim rfl ok_why_Trim (Nat.le_of_ble_eq_true rfl)]
  generalize ens l = xs at *
  obtain ⟨ev, eo, so, co, ⟨hev, hco⟩, R⟩ := RULES CC; rw [← hev]
  rw [← hco] at hcl
  simp only [fpart, part', Tryd.f21, Option.getD]
  simp (maxSteps := 5000000) only [SA, SB, SD, R, guardAt, binP, intP, indexAddrP, elemsOf, readCells, lenP, lenAt, resultsP, resultP, oneOr, reduceCtorEq, reduceIte, Nat.reduceEqDiff, Nat.reduceAdd, Nat.zero_add, Nat.reduceMul, Nat.reduceLT, Nat.reduceLeDiff, Int.reduceLT, Int.reduceNeg, Int.reduceLE, appendP, appendAt, letGo, setLoc, locVal, Int.reduceToNat, boxCells, und, TG, SE, SC, minP2, maxP2, hln, hsub, hw, hsl, hcl, Option.map_some, Option.map_none]
  exact ⟨_, rfl⟩
theorem op_why_Trim (l : List En) (hl : smL l) (n : Int) (bx) : callOp CC (callL CC) 21 [.sl (ens l), .int .i64 n] bx = some (.ret (.sl (ens (trT l n))), bx) := by
  obtain ⟨b, h⟩ := call_why_Trim l hl n
  exact callOp_of rfl (by simp only [pureL, PV.pure, ens_pure, Bool.and_self]) h (by simp only [PV.pure, ens_pure])
end Go.HH
