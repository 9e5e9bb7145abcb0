/-
  Logs: the text of an entry in the specification; the law of texts.
-/
import Derived.Test.YtbbhmdpbojoheaaDoorY10
namespace Go.HH
open Go Go.Proofs
set_option maxRecDepth 100000
set_option maxHeartbeats 4000000
set_option linter.unusedSimpArgs false
set_option linter.unusedVariables false
def rx1 (e : En) : List UInt8 := if e.key.1 = 0 then tx0 e else if e.key.2.2 = [] then cat (cat (cat (cat (tx0 e) [32]) (Lib.itoa e.key.1)) [46]) e.key.2.1 else cat (cat (cat (cat (cat (cat (tx0 e) [32]) (Lib.itoa e.key.1)) [46]) e.key.2.1) [46]) e.key.2.2
def rx2 (e : En) : List UInt8 := if prV e.val = [] ∨ prV e.val = sN then rx1 e else cat (cat (rx1 e) [32]) (prV e.val)
def txR (e : En) : List UInt8 := if 1 ≤ e.cause.1 ∧ e.cause.1 ≤ 4 then cat (cat (cat (cat (rx2 e) by4) (origN e.cause.1.toNat)) [32]) e.cause.2.1 else rx2 e
theorem rx1_eq (e : En) : rx1 e = tx1 e := by
  unfold rx1 tx1 nmT
  by_cases h : e.key.1 = 0
  · rw [if_pos h, if_pos h]
  · rw [if_neg h, if_neg h]
    by_cases h2 : e.key.2.2 = []
    · rw [if_pos h2, if_pos h2]
      simp only [cat, List.append_assoc]
    · rw [if_neg h2, if_neg h2]
      simp only [cat, List.append_assoc]
theorem rx2_eq (e : En) : rx2 e = tx2 e := by
  unfold rx2 tx2
  rw [rx1_eq]
  by_cases h : prV e.val = [] ∨ prV e.val = sN
  · rw [if_pos h, if_pos h]
  · rw [if_neg h, if_neg h]
    simp only [cat, List.append_assoc]
theorem orig_ne {k : Nat} (h : 1 ≤ k ∧ k ≤ 4) : origN k ≠ [] := by
  have : k = 1 ∨ k = 2 ∨ k = 3 ∨ k = 4 := by omega
  rcases this with rfl | rfl | rfl | rfl <;> simp [origN]
theorem txR_eq (e : En) : txR e = txT e := by
  unfold txR txT origT
  rw [rx2_eq]
  by_cases h : 1 ≤ e.cause.1 ∧ e.cause.1 ≤ 4
  · rw [if_pos h, if_pos h, if_neg (orig_ne (by omega))]
    simp only [cat, List.append_assoc]
  · rw [if_neg h, if_neg h, if_pos rfl]
theorem call_R56_Text (e : En) (he : okEn e) (hs : smE e) : ∃ bx, callL CC 20 [enV e] [] = some (.ret (.str (txR e)), bx) := by
  obtain ⟨g1, g2, g3, g4, g5, g6, g7⟩ := he
  obtain ⟨s1, s2, s3⟩ := hs
  have o1 := op_R01_Digits e.no g1
  have o2 := op_R01_Digits e.tick g2
  have o3 := op_R56_word e.kind
  have o4 := op_R01_Digits e.key.1 g4.1
  have o5 := op_R20_Print e.val g5.2.1
  have l1 := itoa_length g1
  have l2 := itoa_length g2
  have l3 := len_word e.kind
  have l4 := itoa_length g4.1
  have l5 := pr_len e.val g5.2.1
  unfold txR rx2 rx1 tx0
  obtain ⟨xno, xtk, xk, xkey, xval, xca, xpar⟩ := e
  obtain ⟨kd, kc, ka⟩ := xkey
  obtain ⟨vk, vn, vs⟩ := xval
  obtain ⟨ck, cn, cp⟩ := xca
  unfold enV
  unfold vlV at o5
  simp only at o1 o2 o3 o4 o5 l1 l2 l3 l4 l5 s1 s2 s3 ⊢
  clear g1 g2 g3 g4 g5 g6 g7
  generalize Lib.itoa xno = d1 at *
  generalize Lib.itoa xtk = d2 at *
  generalize Lib.itoa kd = d3 at *
  generalize wordT xk = w at *
  generalize prV (vk, vn, vs) = pv at *
  have t6 : tick6.length = 6 := rfl
  have b4 : by4.length = 4 := rfl
  have c1 := catA (a := [35]) (b := d1) (by simp only [List.length_singleton]; omega)
  have c2 := catA (a := cat [35] d1) (b := tick6) (by simp only [cat_len, List.length_singleton]; omega)
  have c3 := catA (a := cat (cat [35] d1) tick6) (b := d2) (by simp only [cat_len, List.length_singleton]; omega)
  have c4 := catA (a := cat (cat (cat [35] d1) tick6) d2) (b := [32]) (by simp only [cat_len, List.length_singleton]; omega)
  have c5 := catA (a := cat (cat (cat (cat [35] d1) tick6) d2) [32]) (b := w) (by simp only [cat_len, List.length_singleton]; omega)
  obtain ⟨t0, ht0⟩ : ∃ t0, t0 = cat (cat (cat (cat (cat [35] d1) tick6) d2) [32]) w := ⟨_, rfl⟩
  have lt0 : t0.length ≤ 100 := by rw [ht0]; simp only [cat_len, List.length_singleton]; omega
  rw [← ht0] at c5 ⊢
  have k1 := catA (a := t0) (b := [32]) (by simp only [List.length_singleton]; omega)
  have k2 := catA (a := cat t0 [32]) (b := d3) (by simp only [cat_len, List.length_singleton]; omega)
  have k3 := catA (a := cat (cat t0 [32]) d3) (b := [46]) (by simp only [cat_len, List.length_singleton]; omega)
  have k4 := catA (a := cat (cat (cat t0 [32]) d3) [46]) (b := kc) (by simp only [cat_len, List.length_singleton]; omega)
  have k5 := catA (a := cat (cat (cat (cat t0 [32]) d3) [46]) kc) (b := [46]) (by simp only [cat_len, List.length_singleton]; omega)
  have k6 := catA (a := cat (cat (cat (cat (cat t0 [32]) d3) [46]) kc) [46]) (b := ka) (by simp only [cat_len, List.length_singleton]; omega)
  have n0 := neq_nil ka
  have n1 := neq_nil pv
  have n2 : strP .neq pv [110, 111, 110, 101] = some (.bool (!(pv == sN))) := rfl
  obtain ⟨t1, ht1⟩ : ∃ t1, t1 = (if kd = 0 then t0 else if ka = [] then cat (cat (cat (cat t0 [32]) d3) [46]) kc else cat (cat (cat (cat (cat (cat t0 [32]) d3) [46]) kc) [46]) ka) := ⟨_, rfl⟩
  have lt1 : t1.length ≤ 130 + kc.length + ka.length := by rw [ht1]; split; omega; split <;> (try simp only [cat_len, List.length_singleton]) <;> omega
  rw [← ht1]
  have p1 := catA (a := t1) (b := [32]) (by simp only [List.length_singleton]; omega)
  have p2 := catA (a := cat t1 [32]) (b := pv) (by simp only [cat_len, List.length_singleton]; omega)
  obtain ⟨t2, ht2⟩ : ∃ t2, t2 = (if pv = [] ∨ pv = sN then t1 else cat (cat t1 [32]) pv) := ⟨_, rfl⟩
  have lt2 : t2.length ≤ 131 + kc.length + ka.length + pv.length := by rw [ht2]; split <;> (try simp only [cat_len, List.length_singleton]) <;> omega
  rw [← ht2]
  have lo : ∀ n, (origN n).length ≤ 10 := fun n => by unfold origN; split <;> decide
  have r1 := catA (a := t2) (b := by4) (by omega)
  have r2 := fun n => catA (a := cat t2 by4) (b := origN n) (by have := lo n; simp only [cat_len]; omega)
  have r3 := fun n => catA (a := cat (cat t2 by4) (origN n)) (b := [32]) (by have := lo n; simp only [cat_len, List.length_singleton]; omega)
  have r4 := fun n => catA (a := cat (cat (cat t2 by4) (origN n)) [32]) (b := cn) (by have := lo n; simp only [cat_len, List.length_singleton]; omega)
  clear lo lt2 lt1 lt0 l1 l2 l3 l4 l5 s1 s2 s3 t6 b4 ht0
  unfold tick6 at c2 c3 c4 c5
  unfold by4 at r1 r2 r3 r4 ⊢
  have w0 := wrap_i64 (n := 0) ⟨by omega, by omega⟩
  have w1 := wrap_i64 (n := 1) ⟨by omega, by omega⟩
  have w2 := wrap_i64 (n := 2) ⟨by omega, by omega⟩
  have w3 := wrap_i64 (n := 3) ⟨by omega, by omega⟩
  obtain ⟨tn, hen⟩ := ENs
  obtain ⟨tu, htu⟩ := VLs
  obtain ⟨tk, hky⟩ := KYs
  obtain ⟨tc, hcs⟩ := CSs
  rw [callL_enter (fn := Tryd.f20) (c := Tryd.f20.body.getD .skip) rfl rfl fat_R56_Text rfl ok_R56_Text (Nat.le_of_ble_eq_true rfl)]
  by_cases hk : kd = 0
  · rw [if_pos hk] at ht1
    have z1 : (kd != 0) = false := by simpa using hk
    subst ht1
    by_cases hv : pv = []
    · have q1 : (pv == []) = true := by simpa using hv
      rw [q1] at n1
      rw [if_pos (.inl hv)] at ht2
      subst ht2
      by_cases e1 : ck = 1
      · subst e1
        rw [if_pos (by omega)]
        have r2 := r2 1
        have r3 := r3 1
        have r4 := r4 1
        have eN : (1 : Int).toNat = 1 := rfl
        have eO : origN 1 = [101, 110, 101, 114, 103, 121] := rfl
        rw [eO] at r2 r3 r4
        rw [eN, eO]
        obtain ⟨ev, eo, so, co, ⟨hev, hco⟩, R⟩ := RULES CC; rw [← hev]
        rw [← hco] at o1 o2 o3 o4 o5
        simp only [fpart, part', Tryd.f20, Option.getD]
        simp (maxSteps := 5000000) only [SA, SB, SD, R, guardAt, binP, intP, indexAddrP, elemsOf, readCells, lenP, lenAt, resultsP, resultP, oneOr, reduceCtorEq, reduceIte, Nat.reduceEqDiff, Nat.reduceAdd, Nat.zero_add, Nat.reduceMul, Nat.reduceLT, Nat.reduceLeDiff, Int.reduceLT, Int.reduceNeg, Int.reduceLE, appendP, appendAt, letGo, setLoc, locVal, Int.reduceToNat, boxCells, und, TG, SE, SC, ENf, List.getElem?_concat_length, List.getElem?_cons_zero, List.getElem?_cons_succ, List.take_nil, unP, hen, htu, hky, hcs, loadR, loadP, storeR, storeK, storeCellsP, laid, lay, setBox, ss1, elemsOf, bsO, Int.reduceSub, Int.reduceMul, Int.reduceAdd, List.length_cons, List.length_nil, Nat.le_refl, Option.map_some, List.take_succ_cons, List.take_zero, List.drop_succ_cons, List.drop_zero, List.drop_nil, List.filter_nil, List.nil_append, List.cons_append, Int.reduceBEq, Int.reduceBNe, Int.reduceGT, Int.reduceGE, Bool.not_true, Bool.not_false, o1, o2, o3, o4, o5, c1, c2, c3, c4, c5, k1, k2, k3, k4, k5, k6, p1, p2, n0, n1, n2, r1, w0, w1, w2, w3, z1, r2, r3, r4]
        exact ⟨_, rfl⟩
      by_cases e2 : ck = 2
      · subst e2
        rw [if_pos (by omega)]
        have r2 := r2 2
        have r3 := r3 2
        have r4 := r4 2
        have eN : (2 : Int).toNat = 2 := rfl
        have eO : origN 2 = [114, 117, 108, 101] := rfl
        rw [eO] at r2 r3 r4
        rw [eN, eO]
        obtain ⟨ev, eo, so, co, ⟨hev, hco⟩, R⟩ := RULES CC; rw [← hev]
        rw [← hco] at o1 o2 o3 o4 o5
        simp only [fpart, part', Tryd.f20, Option.getD]
        simp (maxSteps := 5000000) only [SA, SB, SD, R, guardAt, binP, intP, indexAddrP, elemsOf, readCells, lenP, lenAt, resultsP, resultP, oneOr, reduceCtorEq, reduceIte, Nat.reduceEqDiff, Nat.reduceAdd, Nat.zero_add, Nat.reduceMul, Nat.reduceLT, Nat.reduceLeDiff, Int.reduceLT, Int.reduceNeg, Int.reduceLE, appendP, appendAt, letGo, setLoc, locVal, Int.reduceToNat, boxCells, und, TG, SE, SC, ENf, List.getElem?_concat_length, List.getElem?_cons_zero, List.getElem?_cons_succ, List.take_nil, unP, hen, htu, hky, hcs, loadR, loadP, storeR, storeK, storeCellsP, laid, lay, setBox, ss1, elemsOf, bsO, Int.reduceSub, Int.reduceMul, Int.reduceAdd, List.length_cons, List.length_nil, Nat.le_refl, Option.map_some, List.take_succ_cons, List.take_zero, List.drop_succ_cons, List.drop_zero, List.drop_nil, List.filter_nil, List.nil_append, List.cons_append, Int.reduceBEq, Int.reduceBNe, Int.reduceGT, Int.reduceGE, Bool.not_true, Bool.not_false, o1, o2, o3, o4, o5, c1, c2, c3, c4, c5, k1, k2, k3, k4, k5, k6, p1, p2, n0, n1, n2, r1, w0, w1, w2, w3, z1, r2, r3, r4]
        exact ⟨_, rfl⟩
      by_cases e3 : ck = 3
      · subst e3
        rw [if_pos (by omega)]
        have r2 := r2 3
        have r3 := r3 3
        have r4 := r4 3
        have eN : (3 : Int).toNat = 3 := rfl
        have eO : origN 3 = [109, 101, 109, 98, 101, 114] := rfl
        rw [eO] at r2 r3 r4
        rw [eN, eO]
        obtain ⟨ev, eo, so, co, ⟨hev, hco⟩, R⟩ := RULES CC; rw [← hev]
        rw [← hco] at o1 o2 o3 o4 o5
        simp only [fpart, part', Tryd.f20, Option.getD]
        simp (maxSteps := 5000000) only [SA, SB, SD, R, guardAt, binP, intP, indexAddrP, elemsOf, readCells, lenP, lenAt, resultsP, resultP, oneOr, reduceCtorEq, reduceIte, Nat.reduceEqDiff, Nat.reduceAdd, Nat.zero_add, Nat.reduceMul, Nat.reduceLT, Nat.reduceLeDiff, Int.reduceLT, Int.reduceNeg, Int.reduceLE, appendP, appendAt, letGo, setLoc, locVal, Int.reduceToNat, boxCells, und, TG, SE, SC, ENf, List.getElem?_concat_length, List.getElem?_cons_zero, List.getElem?_cons_succ, List.take_nil, unP, hen, htu, hky, hcs, loadR, loadP, storeR, storeK, storeCellsP, laid, lay, setBox, ss1, elemsOf, bsO, Int.reduceSub, Int.reduceMul, Int.reduceAdd, List.length_cons, List.length_nil, Nat.le_refl, Option.map_some, List.take_succ_cons, List.take_zero, List.drop_succ_cons, List.drop_zero, List.drop_nil, List.filter_nil, List.nil_append, List.cons_append, Int.reduceBEq, Int.reduceBNe, Int.reduceGT, Int.reduceGE, Bool.not_true, Bool.not_false, o1, o2, o3, o4, o5, c1, c2, c3, c4, c5, k1, k2, k3, k4, k5, k6, p1, p2, n0, n1, n2, r1, w0, w1, w2, w3, z1, r2, r3, r4]
        exact ⟨_, rfl⟩
      by_cases e4 : ck = 4
      · subst e4
        rw [if_pos (by omega)]
        have r2 := r2 4
        have r3 := r3 4
        have r4 := r4 4
        have eN : (4 : Int).toNat = 4 := rfl
        have eO : origN 4 = [115, 97, 102, 101, 116, 121] := rfl
        rw [eO] at r2 r3 r4
        rw [eN, eO]
        obtain ⟨ev, eo, so, co, ⟨hev, hco⟩, R⟩ := RULES CC; rw [← hev]
        rw [← hco] at o1 o2 o3 o4 o5
        simp only [fpart, part', Tryd.f20, Option.getD]
        simp (maxSteps := 5000000) only [SA, SB, SD, R, guardAt, binP, intP, indexAddrP, elemsOf, readCells, lenP, lenAt, resultsP, resultP, oneOr, reduceCtorEq, reduceIte, Nat.reduceEqDiff, Nat.reduceAdd, Nat.zero_add, Nat.reduceMul, Nat.reduceLT, Nat.reduceLeDiff, Int.reduceLT, Int.reduceNeg, Int.reduceLE, appendP, appendAt, letGo, setLoc, locVal, Int.reduceToNat, boxCells, und, TG, SE, SC, ENf, List.getElem?_concat_length, List.getElem?_cons_zero, List.getElem?_cons_succ, List.take_nil, unP, hen, htu, hky, hcs, loadR, loadP, storeR, storeK, storeCellsP, laid, lay, setBox, ss1, elemsOf, bsO, Int.reduceSub, Int.reduceMul, Int.reduceAdd, List.length_cons, List.length_nil, Nat.le_refl, Option.map_some, List.take_succ_cons, List.take_zero, List.drop_succ_cons, List.drop_zero, List.drop_nil, List.filter_nil, List.nil_append, List.cons_append, Int.reduceBEq, Int.reduceBNe, Int.reduceGT, Int.reduceGE, Bool.not_true, Bool.not_false, o1, o2, o3, o4, o5, c1, c2, c3, c4, c5, k1, k2, k3, k4, k5, k6, p1, p2, n0, n1, n2, r1, w0, w1, w2, w3, z1, r2, r3, r4]
        exact ⟨_, rfl⟩
      rw [if_neg (by omega)]
      by_cases f1 : ck ≥ 1
      · have f2 : ¬ (ck ≤ 4) := by omega
        obtain ⟨ev, eo, so, co, ⟨hev, hco⟩, R⟩ := RULES CC; rw [← hev]
        rw [← hco] at o1 o2 o3 o4 o5
        simp only [fpart, part', Tryd.f20, Option.getD]
        simp (maxSteps := 5000000) only [SA, SB, SD, R, guardAt, binP, intP, indexAddrP, elemsOf, readCells, lenP, lenAt, resultsP, resultP, oneOr, reduceCtorEq, reduceIte, Nat.reduceEqDiff, Nat.reduceAdd, Nat.zero_add, Nat.reduceMul, Nat.reduceLT, Nat.reduceLeDiff, Int.reduceLT, Int.reduceNeg, Int.reduceLE, appendP, appendAt, letGo, setLoc, locVal, Int.reduceToNat, boxCells, und, TG, SE, SC, ENf, List.getElem?_concat_length, List.getElem?_cons_zero, List.getElem?_cons_succ, List.take_nil, unP, hen, htu, hky, hcs, loadR, loadP, storeR, storeK, storeCellsP, laid, lay, setBox, ss1, elemsOf, bsO, Int.reduceSub, Int.reduceMul, Int.reduceAdd, List.length_cons, List.length_nil, Nat.le_refl, Option.map_some, List.take_succ_cons, List.take_zero, List.drop_succ_cons, List.drop_zero, List.drop_nil, List.filter_nil, List.nil_append, List.cons_append, Int.reduceBEq, Int.reduceBNe, Int.reduceGT, Int.reduceGE, Bool.not_true, Bool.not_false, o1, o2, o3, o4, o5, c1, c2, c3, c4, c5, k1, k2, k3, k4, k5, k6, p1, p2, n0, n1, n2, r1, w0, w1, w2, w3, z1, f1, f2]
        exact ⟨_, rfl⟩
      · obtain ⟨ev, eo, so, co, ⟨hev, hco⟩, R⟩ := RULES CC; rw [← hev]
        rw [← hco] at o1 o2 o3 o4 o5
        simp only [fpart, part', Tryd.f20, Option.getD]
        simp (maxSteps := 5000000) only [SA, SB, SD, R, guardAt, binP, intP, indexAddrP, elemsOf, readCells, lenP, lenAt, resultsP, resultP, oneOr, reduceCtorEq, reduceIte, Nat.reduceEqDiff, Nat.reduceAdd, Nat.zero_add, Nat.reduceMul, Nat.reduceLT, Nat.reduceLeDiff, Int.reduceLT, Int.reduceNeg, Int.reduceLE, appendP, appendAt, letGo, setLoc, locVal, Int.reduceToNat, boxCells, und, TG, SE, SC, ENf, List.getElem?_concat_length, List.getElem?_cons_zero, List.getElem?_cons_succ, List.take_nil, unP, hen, htu, hky, hcs, loadR, loadP, storeR, storeK, storeCellsP, laid, lay, setBox, ss1, elemsOf, bsO, Int.reduceSub, Int.reduceMul, Int.reduceAdd, List.length_cons, List.length_nil, Nat.le_refl, Option.map_some, List.take_succ_cons, List.take_zero, List.drop_succ_cons, List.drop_zero, List.drop_nil, List.filter_nil, List.nil_append, List.cons_append, Int.reduceBEq, Int.reduceBNe, Int.reduceGT, Int.reduceGE, Bool.not_true, Bool.not_false, o1, o2, o3, o4, o5, c1, c2, c3, c4, c5, k1, k2, k3, k4, k5, k6, p1, p2, n0, n1, n2, r1, w0, w1, w2, w3, z1, f1]
        exact ⟨_, rfl⟩
    have q1 : (pv == []) = false := by simpa using hv
    rw [q1] at n1
    by_cases hw : pv = sN
    · have q2 : (pv == sN) = true := by simpa using hw
      rw [q2] at n2
      rw [if_pos (.inr hw)] at ht2
      subst ht2
      by_cases e1 : ck = 1
      · subst e1
        rw [if_pos (by omega)]
        have r2 := r2 1
        have r3 := r3 1
        have r4 := r4 1
        have eN : (1 : Int).toNat = 1 := rfl
        have eO : origN 1 = [101, 110, 101, 114, 103, 121] := rfl
        rw [eO] at r2 r3 r4
        rw [eN, eO]
        obtain ⟨ev, eo, so, co, ⟨hev, hco⟩, R⟩ := RULES CC; rw [← hev]
        rw [← hco] at o1 o2 o3 o4 o5
        simp only [fpart, part', Tryd.f20, Option.getD]
        simp (maxSteps := 5000000) only [SA, SB, SD, R, guardAt, binP, intP, indexAddrP, elemsOf, readCells, lenP, lenAt, resultsP, resultP, oneOr, reduceCtorEq, reduceIte, Nat.reduceEqDiff, Nat.reduceAdd, Nat.zero_add, Nat.reduceMul, Nat.reduceLT, Nat.reduceLeDiff, Int.reduceLT, Int.reduceNeg, Int.reduceLE, appendP, appendAt, letGo, setLoc, locVal, Int.reduceToNat, boxCells, und, TG, SE, SC, ENf, List.getElem?_concat_length, List.getElem?_cons_zero, List.getElem?_cons_succ, List.take_nil, unP, hen, htu, hky, hcs, loadR, loadP, storeR, storeK, storeCellsP, laid, lay, setBox, ss1, elemsOf, bsO, Int.reduceSub, Int.reduceMul, Int.reduceAdd, List.length_cons, List.length_nil, Nat.le_refl, Option.map_some, List.take_succ_cons, List.take_zero, List.drop_succ_cons, List.drop_zero, List.drop_nil, List.filter_nil, List.nil_append, List.cons_append, Int.reduceBEq, Int.reduceBNe, Int.reduceGT, Int.reduceGE, Bool.not_true, Bool.not_false, o1, o2, o3, o4, o5, c1, c2, c3, c4, c5, k1, k2, k3, k4, k5, k6, p1, p2, n0, n1, n2, r1, w0, w1, w2, w3, z1, r2, r3, r4]
        exact ⟨_, rfl⟩
      by_cases e2 : ck = 2
      · subst e2
        rw [if_pos (by omega)]
        have r2 := r2 2
        have r3 := r3 2
        have r4 := r4 2
        have eN : (2 : Int).toNat = 2 := rfl
        have eO : origN 2 = [114, 117, 108, 101] := rfl
        rw [eO] at r2 r3 r4
        rw [eN, eO]
        obtain ⟨ev, eo, so, co, ⟨hev, hco⟩, R⟩ := RULES CC; rw [← hev]
        rw [← hco] at o1 o2 o3 o4 o5
        simp only [fpart, part', Tryd.f20, Option.getD]
        simp (maxSteps := 5000000) only [SA, SB, SD, R, guardAt, binP, intP, indexAddrP, elemsOf, readCells, lenP, lenAt, resultsP, resultP, oneOr, reduceCtorEq, reduceIte, Nat.reduceEqDiff, Nat.reduceAdd, Nat.zero_add, Nat.reduceMul, Nat.reduceLT, Nat.reduceLeDiff, Int.reduceLT, Int.reduceNeg, Int.reduceLE, appendP, appendAt, letGo, setLoc, locVal, Int.reduceToNat, boxCells, und, TG, SE, SC, ENf, List.getElem?_concat_length, List.getElem?_cons_zero, List.getElem?_cons_succ, List.take_nil, unP, hen, htu, hky, hcs, loadR, loadP, storeR, storeK, storeCellsP, laid, lay, setBox, ss1, elemsOf, bsO, Int.reduceSub, Int.reduceMul, Int.reduceAdd, List.length_cons, List.length_nil, Nat.le_refl, Option.map_some, List.take_succ_cons, List.take_zero, List.drop_succ_cons, List.drop_zero, List.drop_nil, List.filter_nil, List.nil_append, List.cons_append, Int.reduceBEq, Int.reduceBNe, Int.reduceGT, Int.reduceGE, Bool.not_true, Bool.not_false, o1, o2, o3, o4, o5, c1, c2, c3, c4, c5, k1, k2, k3, k4, k5, k6, p1, p2, n0, n1, n2, r1, w0, w1, w2, w3, z1, r2, r3, r4]
        exact ⟨_, rfl⟩
      by_cases e3 : ck = 3
      · subst e3
        rw [if_pos (by omega)]
        have r2 := r2 3
        have r3 := r3 3
        have r4 := r4 3
        have eN : (3 : Int).toNat = 3 := rfl
        have eO : origN 3 = [109, 101, 109, 98, 101, 114] := rfl
        rw [eO] at r2 r3 r4
        rw [eN, eO]
        obtain ⟨ev, eo, so, co, ⟨hev, hco⟩, R⟩ := RULES CC; rw [← hev]
        rw [← hco] at o1 o2 o3 o4 o5
        simp only [fpart, part', Tryd.f20, Option.getD]
        simp (maxSteps := 5000000) only [SA, SB, SD, R, guardAt, binP, intP, indexAddrP, elemsOf, readCells, lenP, lenAt, resultsP, resultP, oneOr, reduceCtorEq, reduceIte, Nat.reduceEqDiff, Nat.reduceAdd, Nat.zero_add, Nat.reduceMul, Nat.reduceLT, Nat.reduceLeDiff, Int.reduceLT, Int.reduceNeg, Int.reduceLE, appendP, appendAt, letGo, setLoc, locVal, Int.reduceToNat, boxCells, und, TG, SE, SC, ENf, List.getElem?_concat_length, List.getElem?_cons_zero, List.getElem?_cons_succ, List.take_nil, unP, hen, htu, hky, hcs, loadR, loadP, storeR, storeK, storeCellsP, laid, lay, setBox, ss1, elemsOf, bsO, Int.reduceSub, Int.reduceMul, Int.reduceAdd, List.length_cons, List.length_nil, Nat.le_refl, Option.map_some, List.take_succ_cons, List.take_zero, List.drop_succ_cons, List.drop_zero, List.drop_nil, List.filter_nil, List.nil_append, List.cons_append, Int.reduceBEq, Int.reduceBNe, Int.reduceGT, Int.reduceGE, Bool.not_true, Bool.not_false, o1, o2, o3, o4, o5, c1, c2, c3, c4, c5, k1, k2, k3, k4, k5, k6, p1, p2, n0, n1, n2, r1, w0, w1, w2, w3, z1, r2, r3, r4]
        exact ⟨_, rfl⟩
      by_cases e4 : ck = 4
      · subst e4
        rw [if_pos (by omega)]
        have r2 := r2 4
        have r3 := r3 4
        have r4 := r4 4
        have eN : (4 : Int).toNat = 4 := rfl
        have eO : origN 4 = [115, 97, 102, 101, 116, 121] := rfl
        rw [eO] at r2 r3 r4
        rw [eN, eO]
        obtain ⟨ev, eo, so, co, ⟨hev, hco⟩, R⟩ := RULES CC; rw [← hev]
        rw [← hco] at o1 o2 o3 o4 o5
        simp only [fpart, part', Tryd.f20, Option.getD]
        simp (maxSteps := 5000000) only [SA, SB, SD, R, guardAt, binP, intP, indexAddrP, elemsOf, readCells, lenP, lenAt, resultsP, resultP, oneOr, reduceCtorEq, reduceIte, Nat.reduceEqDiff, Nat.reduceAdd, Nat.zero_add, Nat.reduceMul, Nat.reduceLT, Nat.reduceLeDiff, Int.reduceLT, Int.reduceNeg, Int.reduceLE, appendP, appendAt, letGo, setLoc, locVal, Int.reduceToNat, boxCells, und, TG, SE, SC, ENf, List.getElem?_concat_length, List.getElem?_cons_zero, List.getElem?_cons_succ, List.take_nil, unP, hen, htu, hky, hcs, loadR, loadP, storeR, storeK, storeCellsP, laid, lay, setBox, ss1, elemsOf, bsO, Int.reduceSub, Int.reduceMul, Int.reduceAdd, List.length_cons, List.length_nil, Nat.le_refl, Option.map_some, List.take_succ_cons, List.take_zero, List.drop_succ_cons, List.drop_zero, List.drop_nil, List.filter_nil, List.nil_append, List.cons_append, Int.reduceBEq, Int.reduceBNe, Int.reduceGT, Int.reduceGE, Bool.not_true, Bool.not_false, o1, o2, o3, o4, o5, c1, c2, c3, c4, c5, k1, k2, k3, k4, k5, k6, p1, p2, n0, n1, n2, r1, w0, w1, w2, w3, z1, r2, r3, r4]
        exact ⟨_, rfl⟩
      rw [if_neg (by omega)]
      by_cases f1 : ck ≥ 1
      · have f2 : ¬ (ck ≤ 4) := by omega
        obtain ⟨ev, eo, so, co, ⟨hev, hco⟩, R⟩ := RULES CC; rw [← hev]
        rw [← hco] at o1 o2 o3 o4 o5
        simp only [fpart, part', Tryd.f20, Option.getD]
        simp (maxSteps := 5000000) only [SA, SB, SD, R, guardAt, binP, intP, indexAddrP, elemsOf, readCells, lenP, lenAt, resultsP, resultP, oneOr, reduceCtorEq, reduceIte, Nat.reduceEqDiff, Nat.reduceAdd, Nat.zero_add, Nat.reduceMul, Nat.reduceLT, Nat.reduceLeDiff, Int.reduceLT, Int.reduceNeg, Int.reduceLE, appendP, appendAt, letGo, setLoc, locVal, Int.reduceToNat, boxCells, und, TG, SE, SC, ENf, List.getElem?_concat_length, List.getElem?_cons_zero, List.getElem?_cons_succ, List.take_nil, unP, hen, htu, hky, hcs, loadR, loadP, storeR, storeK, storeCellsP, laid, lay, setBox, ss1, elemsOf, bsO, Int.reduceSub, Int.reduceMul, Int.reduceAdd, List.length_cons, List.length_nil, Nat.le_refl, Option.map_some, List.take_succ_cons, List.take_zero, List.drop_succ_cons, List.drop_zero, List.drop_nil, List.filter_nil, List.nil_append, List.cons_append, Int.reduceBEq, Int.reduceBNe, Int.reduceGT, Int.reduceGE, Bool.not_true, Bool.not_false, o1, o2, o3, o4, o5, c1, c2, c3, c4, c5, k1, k2, k3, k4, k5, k6, p1, p2, n0, n1, n2, r1, w0, w1, w2, w3, z1, f1, f2]
        exact ⟨_, rfl⟩
      · obtain ⟨ev, eo, so, co, ⟨hev, hco⟩, R⟩ := RULES CC; rw [← hev]
        rw [← hco] at o1 o2 o3 o4 o5
        simp only [fpart, part', Tryd.f20, Option.getD]
        simp (maxSteps := 5000000) only [SA, SB, SD, R, guardAt, binP, intP, indexAddrP, elemsOf, readCells, lenP, lenAt, resultsP, resultP, oneOr, reduceCtorEq, reduceIte, Nat.reduceEqDiff, Nat.reduceAdd, Nat.zero_add, Nat.reduceMul, Nat.reduceLT, Nat.reduceLeDiff, Int.reduceLT, Int.reduceNeg, Int.reduceLE, appendP, appendAt, letGo, setLoc, locVal, Int.reduceToNat, boxCells, und, TG, SE, SC, ENf, List.getElem?_concat_length, List.getElem?_cons_zero, List.getElem?_cons_succ, List.take_nil, unP, hen, htu, hky, hcs, loadR, loadP, storeR, storeK, storeCellsP, laid, lay, setBox, ss1, elemsOf, bsO, Int.reduceSub, Int.reduceMul, Int.reduceAdd, List.length_cons, List.length_nil, Nat.le_refl, Option.map_some, List.take_succ_cons, List.take_zero, List.drop_succ_cons, List.drop_zero, List.drop_nil, List.filter_nil, List.nil_append, List.cons_append, Int.reduceBEq, Int.reduceBNe, Int.reduceGT, Int.reduceGE, Bool.not_true, Bool.not_false, o1, o2, o3, o4, o5, c1, c2, c3, c4, c5, k1, k2, k3, k4, k5, k6, p1, p2, n0, n1, n2, r1, w0, w1, w2, w3, z1, f1]
        exact ⟨_, rfl⟩
    have q2 : (pv == sN) = false := by simpa using hw
    rw [q2] at n2
    rw [if_neg (by rintro (h | h); exact hv h; exact hw h)] at ht2
    rw [← ht2] at p2
    by_cases e1 : ck = 1
    · subst e1
      rw [if_pos (by omega)]
      have r2 := r2 1
      have r3 := r3 1
      have r4 := r4 1
      have eN : (1 : Int).toNat = 1 := rfl
      have eO : origN 1 = [101, 110, 101, 114, 103, 121] := rfl
      rw [eO] at r2 r3 r4
      rw [eN, eO]
      obtain ⟨ev, eo, so, co, ⟨hev, hco⟩, R⟩ := RULES CC; rw [← hev]
      rw [← hco] at o1 o2 o3 o4 o5
      simp only [fpart, part', Tryd.f20, Option.getD]
      simp (maxSteps := 5000000) only [SA, SB, SD, R, guardAt, binP, intP, indexAddrP, elemsOf, readCells, lenP, lenAt, resultsP, resultP, oneOr, reduceCtorEq, reduceIte, Nat.reduceEqDiff, Nat.reduceAdd, Nat.zero_add, Nat.reduceMul, Nat.reduceLT, Nat.reduceLeDiff, Int.reduceLT, Int.reduceNeg, Int.reduceLE, appendP, appendAt, letGo, setLoc, locVal, Int.reduceToNat, boxCells, und, TG, SE, SC, ENf, List.getElem?_concat_length, List.getElem?_cons_zero, List.getElem?_cons_succ, List.take_nil, unP, hen, htu, hky, hcs, loadR, loadP, storeR, storeK, storeCellsP, laid, lay, setBox, ss1, elemsOf, bsO, Int.reduceSub, Int.reduceMul, Int.reduceAdd, List.length_cons, List.length_nil, Nat.le_refl, Option.map_some, List.take_succ_cons, List.take_zero, List.drop_succ_cons, List.drop_zero, List.drop_nil, List.filter_nil, List.nil_append, List.cons_append, Int.reduceBEq, Int.reduceBNe, Int.reduceGT, Int.reduceGE, Bool.not_true, Bool.not_false, o1, o2, o3, o4, o5, c1, c2, c3, c4, c5, k1, k2, k3, k4, k5, k6, p1, p2, n0, n1, n2, r1, w0, w1, w2, w3, z1, r2, r3, r4]
      exact ⟨_, rfl⟩
    by_cases e2 : ck = 2
    · subst e2
      rw [if_pos (by omega)]
      have r2 := r2 2
      have r3 := r3 2
      have r4 := r4 2
      have eN : (2 : Int).toNat = 2 := rfl
      have eO : origN 2 = [114, 117, 108, 101] := rfl
      rw [eO] at r2 r3 r4
      rw [eN, eO]
      obtain ⟨ev, eo, so, co, ⟨hev, hco⟩, R⟩ := RULES CC; rw [← hev]
      rw [← hco] at o1 o2 o3 o4 o5
      simp only [fpart, part', Tryd.f20, Option.getD]
      simp (maxSteps := 5000000) only [SA, SB, SD, R, guardAt, binP, intP, indexAddrP, elemsOf, readCells, lenP, lenAt, resultsP, resultP, oneOr, reduceCtorEq, reduceIte, Nat.reduceEqDiff, Nat.reduceAdd, Nat.zero_add, Nat.reduceMul, Nat.reduceLT, Nat.reduceLeDiff, Int.reduceLT, Int.reduceNeg, Int.reduceLE, appendP, appendAt, letGo, setLoc, locVal, Int.reduceToNat, boxCells, und, TG, SE, SC, ENf, List.getElem?_concat_length, List.getElem?_cons_zero, List.getElem?_cons_succ, List.take_nil, unP, hen, htu, hky, hcs, loadR, loadP, storeR, storeK, storeCellsP, laid, lay, setBox, ss1, elemsOf, bsO, Int.reduceSub, Int.reduceMul, Int.reduceAdd, List.length_cons, List.length_nil, Nat.le_refl, Option.map_some, List.take_succ_cons, List.take_zero, List.drop_succ_cons, List.drop_zero, List.drop_nil, List.filter_nil, List.nil_append, List.cons_append, Int.reduceBEq, Int.reduceBNe, Int.reduceGT, Int.reduceGE, Bool.not_true, Bool.not_false, o1, o2, o3, o4, o5, c1, c2, c3, c4, c5, k1, k2, k3, k4, k5, k6, p1, p2, n0, n1, n2, r1, w0, w1, w2, w3, z1, r2, r3, r4]
      exact ⟨_, rfl⟩
    by_cases e3 : ck = 3
    · subst e3
      rw [if_pos (by omega)]
      have r2 := r2 3
      have r3 := r3 3
      have r4 := r4 3
      have eN : (3 : Int).toNat = 3 := rfl
      have eO : origN 3 = [109, 101, 109, 98, 101, 114] := rfl
      rw [eO] at r2 r3 r4
      rw [eN, eO]
      obtain ⟨ev, eo, so, co, ⟨hev, hco⟩, R⟩ := RULES CC; rw [← hev]
      rw [← hco] at o1 o2 o3 o4 o5
      simp only [fpart, part', Tryd.f20, Option.getD]
      simp (maxSteps := 5000000) only [SA, SB, SD, R, guardAt, binP, intP, indexAddrP, elemsOf, readCells, lenP, lenAt, resultsP, resultP, oneOr, reduceCtorEq, reduceIte, Nat.reduceEqDiff, Nat.reduceAdd, Nat.zero_add, Nat.reduceMul, Nat.reduceLT, Nat.reduceLeDiff, Int.reduceLT, Int.reduceNeg, Int.reduceLE, appendP, appendAt, letGo, setLoc, locVal, Int.reduceToNat, boxCells, und, TG, SE, SC, ENf, List.getElem?_concat_length, List.getElem?_cons_zero, List.getElem?_cons_succ, List.take_nil, unP, hen, htu, hky, hcs, loadR, loadP, storeR, storeK, storeCellsP, laid, lay, setBox, ss1, elemsOf, bsO, Int.reduceSub, Int.reduceMul, Int.reduceAdd, List.length_cons, List.length_nil, Nat.le_refl, Option.map_some, List.take_succ_cons, List.take_zero, List.drop_succ_cons, List.drop_zero, List.drop_nil, List.filter_nil, List.nil_append, List.cons_append, Int.reduceBEq, Int.reduceBNe, Int.reduceGT, Int.reduceGE, Bool.not_true, Bool.not_false, o1, o2, o3, o4, o5, c1, c2, c3, c4, c5, k1, k2, k3, k4, k5, k6, p1, p2, n0, n1, n2, r1, w0, w1, w2, w3, z1, r2, r3, r4]
      exact ⟨_, rfl⟩
    by_cases e4 : ck = 4
    · subst e4
      rw [if_pos (by omega)]
      have r2 := r2 4
      have r3 := r3 4
      have r4 := r4 4
      have eN : (4 : Int).toNat = 4 := rfl
      have eO : origN 4 = [115, 97, 102, 101, 116, 121] := rfl
      rw [eO] at r2 r3 r4
      rw [eN, eO]
      obtain ⟨ev, eo, so, co, ⟨hev, hco⟩, R⟩ := RULES CC; rw [← hev]
      rw [← hco] at o1 o2 o3 o4 o5
      simp only [fpart, part', Tryd.f20, Option.getD]
      simp (maxSteps := 5000000) only [SA, SB, SD, R, guardAt, binP, intP, indexAddrP, elemsOf, readCells, lenP, lenAt, resultsP, resultP, oneOr, reduceCtorEq, reduceIte, Nat.reduceEqDiff, Nat.reduceAdd, Nat.zero_add, Nat.reduceMul, Nat.reduceLT, Nat.reduceLeDiff, Int.reduceLT, Int.reduceNeg, Int.reduceLE, appendP, appendAt, letGo, setLoc, locVal, Int.reduceToNat, boxCells, und, TG, SE, SC, ENf, List.getElem?_concat_length, List.getElem?_cons_zero, List.getElem?_cons_succ, List.take_nil, unP, hen, htu, hky, hcs, loadR, loadP, storeR, storeK, storeCellsP, laid, lay, setBox, ss1, elemsOf, bsO, Int.reduceSub, Int.reduceMul, Int.reduceAdd, List.length_cons, List.length_nil, Nat.le_refl, Option.map_some, List.take_succ_cons, List.take_zero, List.drop_succ_cons, List.drop_zero, List.drop_nil, List.filter_nil, List.nil_append, List.cons_append, Int.reduceBEq, Int.reduceBNe, Int.reduceGT, Int.reduceGE, Bool.not_true, Bool.not_false, o1, o2, o3, o4, o5, c1, c2, c3, c4, c5, k1, k2, k3, k4, k5, k6, p1, p2, n0, n1, n2, r1, w0, w1, w2, w3, z1, r2, r3, r4]
      exact ⟨_, rfl⟩
    rw [if_neg (by omega)]
    by_cases f1 : ck ≥ 1
    · have f2 : ¬ (ck ≤ 4) := by omega
      obtain ⟨ev, eo, so, co, ⟨hev, hco⟩, R⟩ := RULES CC; rw [← hev]
      rw [← hco] at o1 o2 o3 o4 o5
      simp only [fpart, part', Tryd.f20, Option.getD]
      simp (maxSteps := 5000000) only [SA, SB, SD, R, guardAt, binP, intP, indexAddrP, elemsOf, readCells, lenP, lenAt, resultsP, resultP, oneOr, reduceCtorEq, reduceIte, Nat.reduceEqDiff, Nat.reduceAdd, Nat.zero_add, Nat.reduceMul, Nat.reduceLT, Nat.reduceLeDiff, Int.reduceLT, Int.reduceNeg, Int.reduceLE, appendP, appendAt, letGo, setLoc, locVal, Int.reduceToNat, boxCells, und, TG, SE, SC, ENf, List.getElem?_concat_length, List.getElem?_cons_zero, List.getElem?_cons_succ, List.take_nil, unP, hen, htu, hky, hcs, loadR, loadP, storeR, storeK, storeCellsP, laid, lay, setBox, ss1, elemsOf, bsO, Int.reduceSub, Int.reduceMul, Int.reduceAdd, List.length_cons, List.length_nil, Nat.le_refl, Option.map_some, List.take_succ_cons, List.take_zero, List.drop_succ_cons, List.drop_zero, List.drop_nil, List.filter_nil, List.nil_append, List.cons_append, Int.reduceBEq, Int.reduceBNe, Int.reduceGT, Int.reduceGE, Bool.not_true, Bool.not_false, o1, o2, o3, o4, o5, c1, c2, c3, c4, c5, k1, k2, k3, k4, k5, k6, p1, p2, n0, n1, n2, r1, w0, w1, w2, w3, z1, f1, f2]
      exact ⟨_, rfl⟩
    · obtain ⟨ev, eo, so, co, ⟨hev, hco⟩, R⟩ := RULES CC; rw [← hev]
      rw [← hco] at o1 o2 o3 o4 o5
      simp only [fpart, part', Tryd.f20, Option.getD]
      simp (maxSteps := 5000000) only [SA, SB, SD, R, guardAt, binP, intP, indexAddrP, elemsOf, readCells, lenP, lenAt, resultsP, resultP, oneOr, reduceCtorEq, reduceIte, Nat.reduceEqDiff, Nat.reduceAdd, Nat.zero_add, Nat.reduceMul, Nat.reduceLT, Nat.reduceLeDiff, Int.reduceLT, Int.reduceNeg, Int.reduceLE, appendP, appendAt, letGo, setLoc, locVal, Int.reduceToNat, boxCells, und, TG, SE, SC, ENf, List.getElem?_concat_length, List.getElem?_cons_zero, List.getElem?_cons_succ, List.take_nil, unP, hen, htu, hky, hcs, loadR, loadP, storeR, storeK, storeCellsP, laid, lay, setBox, ss1, elemsOf, bsO, Int.reduceSub, Int.reduceMul, Int.reduceAdd, List.length_cons, List.length_nil, Nat.le_refl, Option.map_some, List.take_succ_cons, List.take_zero, List.drop_succ_cons, List.drop_zero, List.drop_nil, List.filter_nil, List.nil_append, List.cons_append, Int.reduceBEq, Int.reduceBNe, Int.reduceGT, Int.reduceGE, Bool.not_true, Bool.not_false, o1, o2, o3, o4, o5, c1, c2, c3, c4, c5, k1, k2, k3, k4, k5, k6, p1, p2, n0, n1, n2, r1, w0, w1, w2, w3, z1, f1]
      exact ⟨_, rfl⟩
  have z1 : (kd != 0) = true := by simpa using hk
  rw [if_neg hk] at ht1
  by_cases ha : ka = []
  · rw [if_pos ha] at ht1
    have q0 : (ka == []) = true := by simpa using ha
    rw [q0] at n0
    rw [← ht1] at k4
    by_cases hv : pv = []
    · have q1 : (pv == []) = true := by simpa using hv
      rw [q1] at n1
      rw [if_pos (.inl hv)] at ht2
      subst ht2
      by_cases e1 : ck = 1
      · subst e1
        rw [if_pos (by omega)]
        have r2 := r2 1
        have r3 := r3 1
        have r4 := r4 1
        have eN : (1 : Int).toNat = 1 := rfl
        have eO : origN 1 = [101, 110, 101, 114, 103, 121] := rfl
        rw [eO] at r2 r3 r4
        rw [eN, eO]
        obtain ⟨ev, eo, so, co, ⟨hev, hco⟩, R⟩ := RULES CC; rw [← hev]
        rw [← hco] at o1 o2 o3 o4 o5
        simp only [fpart, part', Tryd.f20, Option.getD]
        simp (maxSteps := 5000000) only [SA, SB, SD, R, guardAt, binP, intP, indexAddrP, elemsOf, readCells, lenP, lenAt, resultsP, resultP, oneOr, reduceCtorEq, reduceIte, Nat.reduceEqDiff, Nat.reduceAdd, Nat.zero_add, Nat.reduceMul, Nat.reduceLT, Nat.reduceLeDiff, Int.reduceLT, Int.reduceNeg, Int.reduceLE, appendP, appendAt, letGo, setLoc, locVal, Int.reduceToNat, boxCells, und, TG, SE, SC, ENf, List.getElem?_concat_length, List.getElem?_cons_zero, List.getElem?_cons_succ, List.take_nil, unP, hen, htu, hky, hcs, loadR, loadP, storeR, storeK, storeCellsP, laid, lay, setBox, ss1, elemsOf, bsO, Int.reduceSub, Int.reduceMul, Int.reduceAdd, List.length_cons, List.length_nil, Nat.le_refl, Option.map_some, List.take_succ_cons, List.take_zero, List.drop_succ_cons, List.drop_zero, List.drop_nil, List.filter_nil, List.nil_append, List.cons_append, Int.reduceBEq, Int.reduceBNe, Int.reduceGT, Int.reduceGE, Bool.not_true, Bool.not_false, o1, o2, o3, o4, o5, c1, c2, c3, c4, c5, k1, k2, k3, k4, k5, k6, p1, p2, n0, n1, n2, r1, w0, w1, w2, w3, z1, r2, r3, r4]
        exact ⟨_, rfl⟩
      by_cases e2 : ck = 2
      · subst e2
        rw [if_pos (by omega)]
        have r2 := r2 2
        have r3 := r3 2
        have r4 := r4 2
        have eN : (2 : Int).toNat = 2 := rfl
        have eO : origN 2 = [114, 117, 108, 101] := rfl
        rw [eO] at r2 r3 r4
        rw [eN, eO]
        obtain ⟨ev, eo, so, co, ⟨hev, hco⟩, R⟩ := RULES CC; rw [← hev]
        rw [← hco] at o1 o2 o3 o4 o5
        simp only [fpart, part', Tryd.f20, Option.getD]
        simp (maxSteps := 5000000) only [SA, SB, SD, R, guardAt, binP, intP, indexAddrP, elemsOf, readCells, lenP, lenAt, resultsP, resultP, oneOr, reduceCtorEq, reduceIte, Nat.reduceEqDiff, Nat.reduceAdd, Nat.zero_add, Nat.reduceMul, Nat.reduceLT, Nat.reduceLeDiff, Int.reduceLT, Int.reduceNeg, Int.reduceLE, appendP, appendAt, letGo, setLoc, locVal, Int.reduceToNat, boxCells, und, TG, SE, SC, ENf, List.getElem?_concat_length, List.getElem?_cons_zero, List.getElem?_cons_succ, List.take_nil, unP, hen, htu, hky, hcs, loadR, loadP, storeR, storeK, storeCellsP, laid, lay, setBox, ss1, elemsOf, bsO, Int.reduceSub, Int.reduceMul, Int.reduceAdd, List.length_cons, List.length_nil, Nat.le_refl, Option.map_some, List.take_succ_cons, List.take_zero, List.drop_succ_cons, List.drop_zero, List.drop_nil, List.filter_nil, List.nil_append, List.cons_append, Int.reduceBEq, Int.reduceBNe, Int.reduceGT, Int.reduceGE, Bool.not_true, Bool.not_false, o1, o2, o3, o4, o5, c1, c2, c3, c4, c5, k1, k2, k3, k4, k5, k6, p1, p2, n0, n1, n2, r1, w0, w1, w2, w3, z1, r2, r3, r4]
        exact ⟨_, rfl⟩
      by_cases e3 : ck = 3
      · subst e3
        rw [if_pos (by omega)]
        have r2 := r2 3
        have r3 := r3 3
        have r4 := r4 3
        have eN : (3 : Int).toNat = 3 := rfl
        have eO : origN 3 = [109, 101, 109, 98, 101, 114] := rfl
        rw [eO] at r2 r3 r4
        rw [eN, eO]
        obtain ⟨ev, eo, so, co, ⟨hev, hco⟩, R⟩ := RULES CC; rw [← hev]
        rw [← hco] at o1 o2 o3 o4 o5
        simp only [fpart, part', Tryd.f20, Option.getD]
        simp (maxSteps := 5000000) only [SA, SB, SD, R, guardAt, binP, intP, indexAddrP, elemsOf, readCells, lenP, lenAt, resultsP, resultP, oneOr, reduceCtorEq, reduceIte, Nat.reduceEqDiff, Nat.reduceAdd, Nat.zero_add, Nat.reduceMul, Nat.reduceLT, Nat.reduceLeDiff, Int.reduceLT, Int.reduceNeg, Int.reduceLE, appendP, appendAt, letGo, setLoc, locVal, Int.reduceToNat, boxCells, und, TG, SE, SC, ENf, List.getElem?_concat_length, List.getElem?_cons_zero, List.getElem?_cons_succ, List.take_nil, unP, hen, htu, hky, hcs, loadR, loadP, storeR, storeK, storeCellsP, laid, lay, setBox, ss1, elemsOf, bsO, Int.reduceSub, Int.reduceMul, Int.reduceAdd, List.length_cons, List.length_nil, Nat.le_refl, Option.map_some, List.take_succ_cons, List.take_zero, List.drop_succ_cons, List.drop_zero, List.drop_nil, List.filter_nil, List.nil_append, List.cons_append, Int.reduceBEq, Int.reduceBNe, Int.reduceGT, Int.reduceGE, Bool.not_true, Bool.not_false, o1, o2, o3, o4, o5, c1, c2, c3, c4, c5, k1, k2, k3, k4, k5, k6, p1, p2, n0, n1, n2, r1, w0, w1, w2, w3, z1, r2, r3, r4]
        exact ⟨_, rfl⟩
      by_cases e4 : ck = 4
      · subst e4
        rw [if_pos (by omega)]
        have r2 := r2 4
        have r3 := r3 4
        have r4 := r4 4
        have eN : (4 : Int).toNat = 4 := rfl
        have eO : origN 4 = [115, 97, 102, 101, 116, 121] := rfl
        rw [eO] at r2 r3 r4
        rw [eN, eO]
        obtain ⟨ev, eo, so, co, ⟨hev, hco⟩, R⟩ := RULES CC; rw [← hev]
        rw [← hco] at o1 o2 o3 o4 o5
        simp only [fpart, part', Tryd.f20, Option.getD]
        simp (maxSteps := 5000000) only [SA, SB, SD, R, guardAt, binP, intP, indexAddrP, elemsOf, readCells, lenP, lenAt, resultsP, resultP, oneOr, reduceCtorEq, reduceIte, Nat.reduceEqDiff, Nat.reduceAdd, Nat.zero_add, Nat.reduceMul, Nat.reduceLT, Nat.reduceLeDiff, Int.reduceLT, Int.reduceNeg, Int.reduceLE, appendP, appendAt, letGo, setLoc, locVal, Int.reduceToNat, boxCells, und, TG, SE, SC, ENf, List.getElem?_concat_length, List.getElem?_cons_zero, List.getElem?_cons_succ, List.take_nil, unP, hen, htu, hky, hcs, loadR, loadP, storeR, storeK, storeCellsP, laid, lay, setBox, ss1, elemsOf, bsO, Int.reduceSub, Int.reduceMul, Int.reduceAdd, List.length_cons, List.length_nil, Nat.le_refl, Option.map_some, List.take_succ_cons, List.take_zero, List.drop_succ_cons, List.drop_zero, List.drop_nil, List.filter_nil, List.nil_append, List.cons_append, Int.reduceBEq, Int.reduceBNe, Int.reduceGT, Int.reduceGE, Bool.not_true, Bool.not_false, o1, o2, o3, o4, o5, c1, c2, c3, c4, c5, k1, k2, k3, k4, k5, k6, p1, p2, n0, n1, n2, r1, w0, w1, w2, w3, z1, r2, r3, r4]
        exact ⟨_, rfl⟩
      rw [if_neg (by omega)]
      by_cases f1 : ck ≥ 1
      · have f2 : ¬ (ck ≤ 4) := by omega
        obtain ⟨ev, eo, so, co, ⟨hev, hco⟩, R⟩ := RULES CC; rw [← hev]
        rw [← hco] at o1 o2 o3 o4 o5
        simp only [fpart, part', Tryd.f20, Option.getD]
        simp (maxSteps := 5000000) only [SA, SB, SD, R, guardAt, binP, intP, indexAddrP, elemsOf, readCells, lenP, lenAt, resultsP, resultP, oneOr, reduceCtorEq, reduceIte, Nat.reduceEqDiff, Nat.reduceAdd, Nat.zero_add, Nat.reduceMul, Nat.reduceLT, Nat.reduceLeDiff, Int.reduceLT, Int.reduceNeg, Int.reduceLE, appendP, appendAt, letGo, setLoc, locVal, Int.reduceToNat, boxCells, und, TG, SE, SC, ENf, List.getElem?_concat_length, List.getElem?_cons_zero, List.getElem?_cons_succ, List.take_nil, unP, hen, htu, hky, hcs, loadR, loadP, storeR, storeK, storeCellsP, laid, lay, setBox, ss1, elemsOf, bsO, Int.reduceSub, Int.reduceMul, Int.reduceAdd, List.length_cons, List.length_nil, Nat.le_refl, Option.map_some, List.take_succ_cons, List.take_zero, List.drop_succ_cons, List.drop_zero, List.drop_nil, List.filter_nil, List.nil_append, List.cons_append, Int.reduceBEq, Int.reduceBNe, Int.reduceGT, Int.reduceGE, Bool.not_true, Bool.not_false, o1, o2, o3, o4, o5, c1, c2, c3, c4, c5, k1, k2, k3, k4, k5, k6, p1, p2, n0, n1, n2, r1, w0, w1, w2, w3, z1, f1, f2]
        exact ⟨_, rfl⟩
      · obtain ⟨ev, eo, so, co, ⟨hev, hco⟩, R⟩ := RULES CC; rw [← hev]
        rw [← hco] at o1 o2 o3 o4 o5
        simp only [fpart, part', Tryd.f20, Option.getD]
        simp (maxSteps := 5000000) only [SA, SB, SD, R, guardAt, binP, intP, indexAddrP, elemsOf, readCells, lenP, lenAt, resultsP, resultP, oneOr, reduceCtorEq, reduceIte, Nat.reduceEqDiff, Nat.reduceAdd, Nat.zero_add, Nat.reduceMul, Nat.reduceLT, Nat.reduceLeDiff, Int.reduceLT, Int.reduceNeg, Int.reduceLE, appendP, appendAt, letGo, setLoc, locVal, Int.reduceToNat, boxCells, und, TG, SE, SC, ENf, List.getElem?_concat_length, List.getElem?_cons_zero, List.getElem?_cons_succ, List.take_nil, unP, hen, htu, hky, hcs, loadR, loadP, storeR, storeK, storeCellsP, laid, lay, setBox, ss1, elemsOf, bsO, Int.reduceSub, Int.reduceMul, Int.reduceAdd, List.length_cons, List.length_nil, Nat.le_refl, Option.map_some, List.take_succ_cons, List.take_zero, List.drop_succ_cons, List.drop_zero, List.drop_nil, List.filter_nil, List.nil_append, List.cons_append, Int.reduceBEq, Int.reduceBNe, Int.reduceGT, Int.reduceGE, Bool.not_true, Bool.not_false, o1, o2, o3, o4, o5, c1, c2, c3, c4, c5, k1, k2, k3, k4, k5, k6, p1, p2, n0, n1, n2, r1, w0, w1, w2, w3, z1, f1]
        exact ⟨_, rfl⟩
    have q1 : (pv == []) = false := by simpa using hv
    rw [q1] at n1
    by_cases hw : pv = sN
    · have q2 : (pv == sN) = true := by simpa using hw
      rw [q2] at n2
      rw [if_pos (.inr hw)] at ht2
      subst ht2
      by_cases e1 : ck = 1
      · subst e1
        rw [if_pos (by omega)]
        have r2 := r2 1
        have r3 := r3 1
        have r4 := r4 1
        have eN : (1 : Int).toNat = 1 := rfl
        have eO : origN 1 = [101, 110, 101, 114, 103, 121] := rfl
        rw [eO] at r2 r3 r4
        rw [eN, eO]
        obtain ⟨ev, eo, so, co, ⟨hev, hco⟩, R⟩ := RULES CC; rw [← hev]
        rw [← hco] at o1 o2 o3 o4 o5
        simp only [fpart, part', Tryd.f20, Option.getD]
        simp (maxSteps := 5000000) only [SA, SB, SD, R, guardAt, binP, intP, indexAddrP, elemsOf, readCells, lenP, lenAt, resultsP, resultP, oneOr, reduceCtorEq, reduceIte, Nat.reduceEqDiff, Nat.reduceAdd, Nat.zero_add, Nat.reduceMul, Nat.reduceLT, Nat.reduceLeDiff, Int.reduceLT, Int.reduceNeg, Int.reduceLE, appendP, appendAt, letGo, setLoc, locVal, Int.reduceToNat, boxCells, und, TG, SE, SC, ENf, List.getElem?_concat_length, List.getElem?_cons_zero, List.getElem?_cons_succ, List.take_nil, unP, hen, htu, hky, hcs, loadR, loadP, storeR, storeK, storeCellsP, laid, lay, setBox, ss1, elemsOf, bsO, Int.reduceSub, Int.reduceMul, Int.reduceAdd, List.length_cons, List.length_nil, Nat.le_refl, Option.map_some, List.take_succ_cons, List.take_zero, List.drop_succ_cons, List.drop_zero, List.drop_nil, List.filter_nil, List.nil_append, List.cons_append, Int.reduceBEq, Int.reduceBNe, Int.reduceGT, Int.reduceGE, Bool.not_true, Bool.not_false, o1, o2, o3, o4, o5, c1, c2, c3, c4, c5, k1, k2, k3, k4, k5, k6, p1, p2, n0, n1, n2, r1, w0, w1, w2, w3, z1, r2, r3, r4]
        exact ⟨_, rfl⟩
      by_cases e2 : ck = 2
      · subst e2
        rw [if_pos (by omega)]
        have r2 := r2 2
        have r3 := r3 2
        have r4 := r4 2
        have eN : (2 : Int).toNat = 2 := rfl
        have eO : origN 2 = [114, 117, 108, 101] := rfl
        rw [eO] at r2 r3 r4
        rw [eN, eO]
        obtain ⟨ev, eo, so, co, ⟨hev, hco⟩, R⟩ := RULES CC; rw [← hev]
        rw [← hco] at o1 o2 o3 o4 o5
        simp only [fpart, part', Tryd.f20, Option.getD]
        simp (maxSteps := 5000000) only [SA, SB, SD, R, guardAt, binP, intP, indexAddrP, elemsOf, readCells, lenP, lenAt, resultsP, resultP, oneOr, reduceCtorEq, reduceIte, Nat.reduceEqDiff, Nat.reduceAdd, Nat.zero_add, Nat.reduceMul, Nat.reduceLT, Nat.reduceLeDiff, Int.reduceLT, Int.reduceNeg, Int.reduceLE, appendP, appendAt, letGo, setLoc, locVal, Int.reduceToNat, boxCells, und, TG, SE, SC, ENf, List.getElem?_concat_length, List.getElem?_cons_zero, List.getElem?_cons_succ, List.take_nil, unP, hen, htu, hky, hcs, loadR, loadP, storeR, storeK, storeCellsP, laid, lay, setBox, ss1, elemsOf, bsO, Int.reduceSub, Int.reduceMul, Int.reduceAdd, List.length_cons, List.length_nil, Nat.le_refl, Option.map_some, List.take_succ_cons, List.take_zero, List.drop_succ_cons, List.drop_zero, List.drop_nil, List.filter_nil, List.nil_append, List.cons_append, Int.reduceBEq, Int.reduceBNe, Int.reduceGT, Int.reduceGE, Bool.not_true, Bool.not_false, o1, o2, o3, o4, o5, c1, c2, c3, c4, c5, k1, k2, k3, k4, k5, k6, p1, p2, n0, n1, n2, r1, w0, w1, w2, w3, z1, r2, r3, r4]
        exact ⟨_, rfl⟩
      by_cases e3 : ck = 3
      · subst e3
        rw [if_pos (by omega)]
        have r2 := r2 3
        have r3 := r3 3
        have r4 := r4 3
        have eN : (3 : Int).toNat = 3 := rfl
        have eO : origN 3 = [109, 101, 109, 98, 101, 114] := rfl
        rw [eO] at r2 r3 r4
        rw [eN, eO]
        obtain ⟨ev, eo, so, co, ⟨hev, hco⟩, R⟩ := RULES CC; rw [← hev]
        rw [← hco] at o1 o2 o3 o4 o5
        simp only [fpart, part', Tryd.f20, Option.getD]
        simp (maxSteps := 5000000) only [SA, SB, SD, R, guardAt, binP, intP, indexAddrP, elemsOf, readCells, lenP, lenAt, resultsP, resultP, oneOr, reduceCtorEq, reduceIte, Nat.reduceEqDiff, Nat.reduceAdd, Nat.zero_add, Nat.reduceMul, Nat.reduceLT, Nat.reduceLeDiff, Int.reduceLT, Int.reduceNeg, Int.reduceLE, appendP, appendAt, letGo, setLoc, locVal, Int.reduceToNat, boxCells, und, TG, SE, SC, ENf, List.getElem?_concat_length, List.getElem?_cons_zero, List.getElem?_cons_succ, List.take_nil, unP, hen, htu, hky, hcs, loadR, loadP, storeR, storeK, storeCellsP, laid, lay, setBox, ss1, elemsOf, bsO, Int.reduceSub, Int.reduceMul, Int.reduceAdd, List.length_cons, List.length_nil, Nat.le_refl, Option.map_some, List.take_succ_cons, List.take_zero, List.drop_succ_cons, List.drop_zero, List.drop_nil, List.filter_nil, List.nil_append, List.cons_append, Int.reduceBEq, Int.reduceBNe, Int.reduceGT, Int.reduceGE, Bool.not_true, Bool.not_false, o1, o2, o3, o4, o5, c1, c2, c3, c4, c5, k1, k2, k3, k4, k5, k6, p1, p2, n0, n1, n2, r1, w0, w1, w2, w3, z1, r2, r3, r4]
        exact ⟨_, rfl⟩
      by_cases e4 : ck = 4
      · subst e4
        rw [if_pos (by omega)]
        have r2 := r2 4
        have r3 := r3 4
        have r4 := r4 4
        have eN : (4 : Int).toNat = 4 := rfl
        have eO : origN 4 = [115, 97, 102, 101, 116, 121] := rfl
        rw [eO] at r2 r3 r4
        rw [eN, eO]
        obtain ⟨ev, eo, so, co, ⟨hev, hco⟩, R⟩ := RULES CC; rw [← hev]
        rw [← hco] at o1 o2 o3 o4 o5
        simp only [fpart, part', Tryd.f20, Option.getD]
        simp (maxSteps := 5000000) only [SA, SB, SD, R, guardAt, binP, intP, indexAddrP, elemsOf, readCells, lenP, lenAt, resultsP, resultP, oneOr, reduceCtorEq, reduceIte, Nat.reduceEqDiff, Nat.reduceAdd, Nat.zero_add, Nat.reduceMul, Nat.reduceLT, Nat.reduceLeDiff, Int.reduceLT, Int.reduceNeg, Int.reduceLE, appendP, appendAt, letGo, setLoc, locVal, Int.reduceToNat, boxCells, und, TG, SE, SC, ENf, List.getElem?_concat_length, List.getElem?_cons_zero, List.getElem?_cons_succ, List.take_nil, unP, hen, htu, hky, hcs, loadR, loadP, storeR, storeK, storeCellsP, laid, lay, setBox, ss1, elemsOf, bsO, Int.reduceSub, Int.reduceMul, Int.reduceAdd, List.length_cons, List.length_nil, Nat.le_refl, Option.map_some, List.take_succ_cons, List.take_zero, List.drop_succ_cons, List.drop_zero, List.drop_nil, List.filter_nil, List.nil_append, List.cons_append, Int.reduceBEq, Int.reduceBNe, Int.reduceGT, Int.reduceGE, Bool.not_true, Bool.not_false, o1, o2, o3, o4, o5, c1, c2, c3, c4, c5, k1, k2, k3, k4, k5, k6, p1, p2, n0, n1, n2, r1, w0, w1, w2, w3, z1, r2, r3, r4]
        exact ⟨_, rfl⟩
      rw [if_neg (by omega)]
      by_cases f1 : ck ≥ 1
      · have f2 : ¬ (ck ≤ 4) := by omega
        obtain ⟨ev, eo, so, co, ⟨hev, hco⟩, R⟩ := RULES CC; rw [← hev]
        rw [← hco] at o1 o2 o3 o4 o5
        simp only [fpart, part', Tryd.f20, Option.getD]
        simp (maxSteps := 5000000) only [SA, SB, SD, R, guardAt, binP, intP, indexAddrP, elemsOf, readCells, lenP, lenAt, resultsP, resultP, oneOr, reduceCtorEq, reduceIte, Nat.reduceEqDiff, Nat.reduceAdd, Nat.zero_add, Nat.reduceMul, Nat.reduceLT, Nat.reduceLeDiff, Int.reduceLT, Int.reduceNeg, Int.reduceLE, appendP, appendAt, letGo, setLoc, locVal, Int.reduceToNat, boxCells, und, TG, SE, SC, ENf, List.getElem?_concat_length, List.getElem?_cons_zero, List.getElem?_cons_succ, List.take_nil, unP, hen, htu, hky, hcs, loadR, loadP, storeR, storeK, storeCellsP, laid, lay, setBox, ss1, elemsOf, bsO, Int.reduceSub, Int.reduceMul, Int.reduceAdd, List.length_cons, List.length_nil, Nat.le_refl, Option.map_some, List.take_succ_cons, List.take_zero, List.drop_succ_cons, List.drop_zero, List.drop_nil, List.filter_nil, List.nil_append, List.cons_append, Int.reduceBEq, Int.reduceBNe, Int.reduceGT, Int.reduceGE, Bool.not_true, Bool.not_false, o1, o2, o3, o4, o5, c1, c2, c3, c4, c5, k1, k2, k3, k4, k5, k6, p1, p2, n0, n1, n2, r1, w0, w1, w2, w3, z1, f1, f2]
        exact ⟨_, rfl⟩
      · obtain ⟨ev, eo, so, co, ⟨hev, hco⟩, R⟩ := RULES CC; rw [← hev]
        rw [← hco] at o1 o2 o3 o4 o5
        simp only [fpart, part', Tryd.f20, Option.getD]
        simp (maxSteps := 5000000) only [SA, SB, SD, R, guardAt, binP, intP, indexAddrP, elemsOf, readCells, lenP, lenAt, resultsP, resultP, oneOr, reduceCtorEq, reduceIte, Nat.reduceEqDiff, Nat.reduceAdd, Nat.zero_add, Nat.reduceMul, Nat.reduceLT, Nat.reduceLeDiff, Int.reduceLT, Int.reduceNeg, Int.reduceLE, appendP, appendAt, letGo, setLoc, locVal, Int.reduceToNat, boxCells, und, TG, SE, SC, ENf, List.getElem?_concat_length, List.getElem?_cons_zero, List.getElem?_cons_succ, List.take_nil, unP, hen, htu, hky, hcs, loadR, loadP, storeR, storeK, storeCellsP, laid, lay, setBox, ss1, elemsOf, bsO, Int.reduceSub, Int.reduceMul, Int.reduceAdd, List.length_cons, List.length_nil, Nat.le_refl, Option.map_some, List.take_succ_cons, List.take_zero, List.drop_succ_cons, List.drop_zero, List.drop_nil, List.filter_nil, List.nil_append, List.cons_append, Int.reduceBEq, Int.reduceBNe, Int.reduceGT, Int.reduceGE, Bool.not_true, Bool.not_false, o1, o2, o3, o4, o5, c1, c2, c3, c4, c5, k1, k2, k3, k4, k5, k6, p1, p2, n0, n1, n2, r1, w0, w1, w2, w3, z1, f1]
        exact ⟨_, rfl⟩
    have q2 : (pv == sN) = false := by simpa using hw
    rw [q2] at n2
    rw [if_neg (by rintro (h | h); exact hv h; exact hw h)] at ht2
    rw [← ht2] at p2
    by_cases e1 : ck = 1
    · subst e1
      rw [if_pos (by omega)]
      have r2 := r2 1
      have r3 := r3 1
      have r4 := r4 1
      have eN : (1 : Int).toNat = 1 := rfl
      have eO : origN 1 = [101, 110, 101, 114, 103, 121] := rfl
      rw [eO] at r2 r3 r4
      rw [eN, eO]
      obtain ⟨ev, eo, so, co, ⟨hev, hco⟩, R⟩ := RULES CC; rw [← hev]
      rw [← hco] at o1 o2 o3 o4 o5
      simp only [fpart, part', Tryd.f20, Option.getD]
      simp (maxSteps := 5000000) only [SA, SB, SD, R, guardAt, binP, intP, indexAddrP, elemsOf, readCells, lenP, lenAt, resultsP, resultP, oneOr, reduceCtorEq, reduceIte, Nat.reduceEqDiff, Nat.reduceAdd, Nat.zero_add, Nat.reduceMul, Nat.reduceLT, Nat.reduceLeDiff, Int.reduceLT, Int.reduceNeg, Int.reduceLE, appendP, appendAt, letGo, setLoc, locVal, Int.reduceToNat, boxCells, und, TG, SE, SC, ENf, List.getElem?_concat_length, List.getElem?_cons_zero, List.getElem?_cons_succ, List.take_nil, unP, hen, htu, hky, hcs, loadR, loadP, storeR, storeK, storeCellsP, laid, lay, setBox, ss1, elemsOf, bsO, Int.reduceSub, Int.reduceMul, Int.reduceAdd, List.length_cons, List.length_nil, Nat.le_refl, Option.map_some, List.take_succ_cons, List.take_zero, List.drop_succ_cons, List.drop_zero, List.drop_nil, List.filter_nil, List.nil_append, List.cons_append, Int.reduceBEq, Int.reduceBNe, Int.reduceGT, Int.reduceGE, Bool.not_true, Bool.not_false, o1, o2, o3, o4, o5, c1, c2, c3, c4, c5, k1, k2, k3, k4, k5, k6, p1, p2, n0, n1, n2, r1, w0, w1, w2, w3, z1, r2, r3, r4]
      exact ⟨_, rfl⟩
    by_cases e2 : ck = 2
    · subst e2
      rw [if_pos (by omega)]
      have r2 := r2 2
      have r3 := r3 2
      have r4 := r4 2
      have eN : (2 : Int).toNat = 2 := rfl
      have eO : origN 2 = [114, 117, 108, 101] := rfl
      rw [eO] at r2 r3 r4
      rw [eN, eO]
      obtain ⟨ev, eo, so, co, ⟨hev, hco⟩, R⟩ := RULES CC; rw [← hev]
      rw [← hco] at o1 o2 o3 o4 o5
      simp only [fpart, part', Tryd.f20, Option.getD]
      simp (maxSteps := 5000000) only [SA, SB, SD, R, guardAt, binP, intP, indexAddrP, elemsOf, readCells, lenP, lenAt, resultsP, resultP, oneOr, reduceCtorEq, reduceIte, Nat.reduceEqDiff, Nat.reduceAdd, Nat.zero_add, Nat.reduceMul, Nat.reduceLT, Nat.reduceLeDiff, Int.reduceLT, Int.reduceNeg, Int.reduceLE, appendP, appendAt, letGo, setLoc, locVal, Int.reduceToNat, boxCells, und, TG, SE, SC, ENf, List.getElem?_concat_length, List.getElem?_cons_zero, List.getElem?_cons_succ, List.take_nil, unP, hen, htu, hky, hcs, loadR, loadP, storeR, storeK, storeCellsP, laid, lay, setBox, ss1, elemsOf, bsO, Int.reduceSub, Int.reduceMul, Int.reduceAdd, List.length_cons, List.length_nil, Nat.le_refl, Option.map_some, List.take_succ_cons, List.take_zero, List.drop_succ_cons, List.drop_zero, List.drop_nil, List.filter_nil, List.nil_append, List.cons_append, Int.reduceBEq, Int.reduceBNe, Int.reduceGT, Int.reduceGE, Bool.not_true, Bool.not_false, o1, o2, o3, o4, o5, c1, c2, c3, c4, c5, k1, k2, k3, k4, k5, k6, p1, p2, n0, n1, n2, r1, w0, w1, w2, w3, z1, r2, r3, r4]
      exact ⟨_, rfl⟩
    by_cases e3 : ck = 3
    · subst e3
      rw [if_pos (by omega)]
      have r2 := r2 3
      have r3 := r3 3
      have r4 := r4 3
      have eN : (3 : Int).toNat = 3 := rfl
      have eO : origN 3 = [109, 101, 109, 98, 101, 114] := rfl
      rw [eO] at r2 r3 r4
      rw [eN, eO]
      obtain ⟨ev, eo, so, co, ⟨hev, hco⟩, R⟩ := RULES CC; rw [← hev]
      rw [← hco] at o1 o2 o3 o4 o5
      simp only [fpart, part', Tryd.f20, Option.getD]
      simp (maxSteps := 5000000) only [SA, SB, SD, R, guardAt, binP, intP, indexAddrP, elemsOf, readCells, lenP, lenAt, resultsP, resultP, oneOr, reduceCtorEq, reduceIte, Nat.reduceEqDiff, Nat.reduceAdd, Nat.zero_add, Nat.reduceMul, Nat.reduceLT, Nat.reduceLeDiff, Int.reduceLT, Int.reduceNeg, Int.reduceLE, appendP, appendAt, letGo, setLoc, locVal, Int.reduceToNat, boxCells, und, TG, SE, SC, ENf, List.getElem?_concat_length, List.getElem?_cons_zero, List.getElem?_cons_succ, List.take_nil, unP, hen, htu, hky, hcs, loadR, loadP, storeR, storeK, storeCellsP, laid, lay, setBox, ss1, elemsOf, bsO, Int.reduceSub, Int.reduceMul, Int.reduceAdd, List.length_cons, List.length_nil, Nat.le_refl, Option.map_some, List.take_succ_cons, List.take_zero, List.drop_succ_cons, List.drop_zero, List.drop_nil, List.filter_nil, List.nil_append, List.cons_append, Int.reduceBEq, Int.reduceBNe, Int.reduceGT, Int.reduceGE, Bool.not_true, Bool.not_false, o1, o2, o3, o4, o5, c1, c2, c3, c4, c5, k1, k2, k3, k4, k5, k6, p1, p2, n0, n1, n2, r1, w0, w1, w2, w3, z1, r2, r3, r4]
      exact ⟨_, rfl⟩
    by_cases e4 : ck = 4
    · subst e4
      rw [if_pos (by omega)]
      have r2 := r2 4
      have r3 := r3 4
      have r4 := r4 4
      have eN : (4 : Int).toNat = 4 := rfl
      have eO : origN 4 = [115, 97, 102, 101, 116, 121] := rfl
      rw [eO] at r2 r3 r4
      rw [eN, eO]
      obtain ⟨ev, eo, so, co, ⟨hev, hco⟩, R⟩ := RULES CC; rw [← hev]
      rw [← hco] at o1 o2 o3 o4 o5
      simp only [fpart, part', Tryd.f20, Option.getD]
      simp (maxSteps := 5000000) only [SA, SB, SD, R, guardAt, binP, intP, indexAddrP, elemsOf, readCells, lenP, lenAt, resultsP, resultP, oneOr, reduceCtorEq, reduceIte, Nat.reduceEqDiff, Nat.reduceAdd, Nat.zero_add, Nat.reduceMul, Nat.reduceLT, Nat.reduceLeDiff, Int.reduceLT, Int.reduceNeg, Int.reduceLE, appendP, appendAt, letGo, setLoc, locVal, Int.reduceToNat, boxCells, und, TG, SE, SC, ENf, List.getElem?_concat_length, List.getElem?_cons_zero, List.getElem?_cons_succ, List.take_nil, unP, hen, htu, hky, hcs, loadR, loadP, storeR, storeK, storeCellsP, laid, lay, setBox, ss1, elemsOf, bsO, Int.reduceSub, Int.reduceMul, Int.reduceAdd, List.length_cons, List.length_nil, Nat.le_refl, Option.map_some, List.take_succ_cons, List.take_zero, List.drop_succ_cons, List.drop_zero, List.drop_nil, List.filter_nil, List.nil_append, List.cons_append, Int.reduceBEq, Int.reduceBNe, Int.reduceGT, Int.reduceGE, Bool.not_true, Bool.not_false, o1, o2, o3, o4, o5, c1, c2, c3, c4, c5, k1, k2, k3, k4, k5, k6, p1, p2, n0, n1, n2, r1, w0, w1, w2, w3, z1, r2, r3, r4]
      exact ⟨_, rfl⟩
    rw [if_neg (by omega)]
    by_cases f1 : ck ≥ 1
    · have f2 : ¬ (ck ≤ 4) := by omega
      obtain ⟨ev, eo, so, co, ⟨hev, hco⟩, R⟩ := RULES CC; rw [← hev]
      rw [← hco] at o1 o2 o3 o4 o5
      simp only [fpart, part', Tryd.f20, Option.getD]
      simp (maxSteps := 5000000) only [SA, SB, SD, R, guardAt, binP, intP, indexAddrP, elemsOf, readCells, lenP, lenAt, resultsP, resultP, oneOr, reduceCtorEq, reduceIte, Nat.reduceEqDiff, Nat.reduceAdd, Nat.zero_add, Nat.reduceMul, Nat.reduceLT, Nat.reduceLeDiff, Int.reduceLT, Int.reduceNeg, Int.reduceLE, appendP, appendAt, letGo, setLoc, locVal, Int.reduceToNat, boxCells, und, TG, SE, SC, ENf, List.getElem?_concat_length, List.getElem?_cons_zero, List.getElem?_cons_succ, List.take_nil, unP, hen, htu, hky, hcs, loadR, loadP, storeR, storeK, storeCellsP, laid, lay, setBox, ss1, elemsOf, bsO, Int.reduceSub, Int.reduceMul, Int.reduceAdd, List.length_cons, List.length_nil, Nat.le_refl, Option.map_some, List.take_succ_cons, List.take_zero, List.drop_succ_cons, List.drop_zero, List.drop_nil, List.filter_nil, List.nil_append, List.cons_append, Int.reduceBEq, Int.reduceBNe, Int.reduceGT, Int.reduceGE, Bool.not_true, Bool.not_false, o1, o2, o3, o4, o5, c1, c2, c3, c4, c5, k1, k2, k3, k4, k5, k6, p1, p2, n0, n1, n2, r1, w0, w1, w2, w3, z1, f1, f2]
      exact ⟨_, rfl⟩
    · obtain ⟨ev, eo, so, co, ⟨hev, hco⟩, R⟩ := RULES CC; rw [← hev]
      rw [← hco] at o1 o2 o3 o4 o5
      simp only [fpart, part', Tryd.f20, Option.getD]
      simp (maxSteps := 5000000) only [SA, SB, SD, R, guardAt, binP, intP, indexAddrP, elemsOf, readCells, lenP, lenAt, resultsP, resultP, oneOr, reduceCtorEq, reduceIte, Nat.reduceEqDiff, Nat.reduceAdd, Nat.zero_add, Nat.reduceMul, Nat.reduceLT, Nat.reduceLeDiff, Int.reduceLT, Int.reduceNeg, Int.reduceLE, appendP, appendAt, letGo, setLoc, locVal, Int.reduceToNat, boxCells, und, TG, SE, SC, ENf, List.getElem?_concat_length, List.getElem?_cons_zero, List.getElem?_cons_succ, List.take_nil, unP, hen, htu, hky, hcs, loadR, loadP, storeR, storeK, storeCellsP, laid, lay, setBox, ss1, elemsOf, bsO, Int.reduceSub, Int.reduceMul, Int.reduceAdd, List.length_cons, List.length_nil, Nat.le_refl, Option.map_some, List.take_succ_cons, List.take_zero, List.drop_succ_cons, List.drop_zero, List.drop_nil, List.filter_nil, List.nil_append, List.cons_append, Int.reduceBEq, Int.reduceBNe, Int.reduceGT, Int.reduceGE, Bool.not_true, Bool.not_false, o1, o2, o3, o4, o5, c1, c2, c3, c4, c5, k1, k2, k3, k4, k5, k6, p1, p2, n0, n1, n2, r1, w0, w1, w2, w3, z1, f1]
      exact ⟨_, rfl⟩
  rw [if_neg ha] at ht1
  have q0 : (ka == []) = false := by simpa using ha
  rw [q0] at n0
  rw [← ht1] at k6
  by_cases hv : pv = []
  · have q1 : (pv == []) = true := by simpa using hv
    rw [q1] at n1
    rw [if_pos (.inl hv)] at ht2
    subst ht2
    by_cases e1 : ck = 1
    · subst e1
      rw [if_pos (by omega)]
      have r2 := r2 1
      have r3 := r3 1
      have r4 := r4 1
      have eN : (1 : Int).toNat = 1 := rfl
      have eO : origN 1 = [101, 110, 101, 114, 103, 121] := rfl
      rw [eO] at r2 r3 r4
      rw [eN, eO]
      obtain ⟨ev, eo, so, co, ⟨hev, hco⟩, R⟩ := RULES CC; rw [← hev]
      rw [← hco] at o1 o2 o3 o4 o5
      simp only [fpart, part', Tryd.f20, Option.getD]
      simp (maxSteps := 5000000) only [SA, SB, SD, R, guardAt, binP, intP, indexAddrP, elemsOf, readCells, lenP, lenAt, resultsP, resultP, oneOr, reduceCtorEq, reduceIte, Nat.reduceEqDiff, Nat.reduceAdd, Nat.zero_add, Nat.reduceMul, Nat.reduceLT, Nat.reduceLeDiff, Int.reduceLT, Int.reduceNeg, Int.reduceLE, appendP, appendAt, letGo, setLoc, locVal, Int.reduceToNat, boxCells, und, TG, SE, SC, ENf, List.getElem?_concat_length, List.getElem?_cons_zero, List.getElem?_cons_succ, List.take_nil, unP, hen, htu, hky, hcs, loadR, loadP, storeR, storeK, storeCellsP, laid, lay, setBox, ss1, elemsOf, bsO, Int.reduceSub, Int.reduceMul, Int.reduceAdd, List.length_cons, List.length_nil, Nat.le_refl, Option.map_some, List.take_succ_cons, List.take_zero, List.drop_succ_cons, List.drop_zero, List.drop_nil, List.filter_nil, List.nil_append, List.cons_append, Int.reduceBEq, Int.reduceBNe, Int.reduceGT, Int.reduceGE, Bool.not_true, Bool.not_false, o1, o2, o3, o4, o5, c1, c2, c3, c4, c5, k1, k2, k3, k4, k5, k6, p1, p2, n0, n1, n2, r1, w0, w1, w2, w3, z1, r2, r3, r4]
      exact ⟨_, rfl⟩
    by_cases e2 : ck = 2
    · subst e2
      rw [if_pos (by omega)]
      have r2 := r2 2
      have r3 := r3 2
      have r4 := r4 2
      have eN : (2 : Int).toNat = 2 := rfl
      have eO : origN 2 = [114, 117, 108, 101] := rfl
      rw [eO] at r2 r3 r4
      rw [eN, eO]
      obtain ⟨ev, eo, so, co, ⟨hev, hco⟩, R⟩ := RULES CC; rw [← hev]
      rw [← hco] at o1 o2 o3 o4 o5
      simp only [fpart, part', Tryd.f20, Option.getD]
      simp (maxSteps := 5000000) only [SA, SB, SD, R, guardAt, binP, intP, indexAddrP, elemsOf, readCells, lenP, lenAt, resultsP, resultP, oneOr, reduceCtorEq, reduceIte, Nat.reduceEqDiff, Nat.reduceAdd, Nat.zero_add, Nat.reduceMul, Nat.reduceLT, Nat.reduceLeDiff, Int.reduceLT, Int.reduceNeg, Int.reduceLE, appendP, appendAt, letGo, setLoc, locVal, Int.reduceToNat, boxCells, und, TG, SE, SC, ENf, List.getElem?_concat_length, List.getElem?_cons_zero, List.getElem?_cons_succ, List.take_nil, unP, hen, htu, hky, hcs, loadR, loadP, storeR, storeK, storeCellsP, laid, lay, setBox, ss1, elemsOf, bsO, Int.reduceSub, Int.reduceMul, Int.reduceAdd, List.length_cons, List.length_nil, Nat.le_refl, Option.map_some, List.take_succ_cons, List.take_zero, List.drop_succ_cons, List.drop_zero, List.drop_nil, List.filter_nil, List.nil_append, List.cons_append, Int.reduceBEq, Int.reduceBNe, Int.reduceGT, Int.reduceGE, Bool.not_true, Bool.not_false, o1, o2, o3, o4, o5, c1, c2, c3, c4, c5, k1, k2, k3, k4, k5, k6, p1, p2, n0, n1, n2, r1, w0, w1, w2, w3, z1, r2, r3, r4]
      exact ⟨_, rfl⟩
    by_cases e3 : ck = 3
    · subst e3
      rw [if_pos (by omega)]
      have r2 := r2 3
      have r3 := r3 3
      have r4 := r4 3
      have eN : (3 : Int).toNat = 3 := rfl
      have eO : origN 3 = [109, 101, 109, 98, 101, 114] := rfl
      rw [eO] at r2 r3 r4
      rw [eN, eO]
      obtain ⟨ev, eo, so, co, ⟨hev, hco⟩, R⟩ := RULES CC; rw [← hev]
      rw [← hco] at o1 o2 o3 o4 o5
      simp only [fpart, part', Tryd.f20, Option.getD]
      simp (maxSteps := 5000000) only [SA, SB, SD, R, guardAt, binP, intP, indexAddrP, elemsOf, readCells, lenP, lenAt, resultsP, resultP, oneOr, reduceCtorEq, reduceIte, Nat.reduceEqDiff, Nat.reduceAdd, Nat.zero_add, Nat.reduceMul, Nat.reduceLT, Nat.reduceLeDiff, Int.reduceLT, Int.reduceNeg, Int.reduceLE, appendP, appendAt, letGo, setLoc, locVal, Int.reduceToNat, boxCells, und, TG, SE, SC, ENf, List.getElem?_concat_length, List.getElem?_cons_zero, List.getElem?_cons_succ, List.take_nil, unP, hen, htu, hky, hcs, loadR, loadP, storeR, storeK, storeCellsP, laid, lay, setBox, ss1, elemsOf, bsO, Int.reduceSub, Int.reduceMul, Int.reduceAdd, List.length_cons, List.length_nil, Nat.le_refl, Option.map_some, List.take_succ_cons, List.take_zero, List.drop_succ_cons, List.drop_zero, List.drop_nil, List.filter_nil, List.nil_append, List.cons_append, Int.reduceBEq, Int.reduceBNe, Int.reduceGT, Int.reduceGE, Bool.not_true, Bool.not_false, o1, o2, o3, o4, o5, c1, c2, c3, c4, c5, k1, k2, k3, k4, k5, k6, p1, p2, n0, n1, n2, r1, w0, w1, w2, w3, z1, r2, r3, r4]
      exact ⟨_, rfl⟩
    by_cases e4 : ck = 4
    · subst e4
      rw [if_pos (by omega)]
      have r2 := r2 4
      have r3 := r3 4
      have r4 := r4 4
      have eN : (4 : Int).toNat = 4 := rfl
      have eO : origN 4 = [115, 97, 102, 101, 116, 121] := rfl
      rw [eO] at r2 r3 r4
      rw [eN, eO]
      obtain ⟨ev, eo, so, co, ⟨hev, hco⟩, R⟩ := RULES CC; rw [← hev]
      rw [← hco] at o1 o2 o3 o4 o5
      simp only [fpart, part', Tryd.f20, Option.getD]
      simp (maxSteps := 5000000) only [SA, SB, SD, R, guardAt, binP, intP, indexAddrP, elemsOf, readCells, lenP, lenAt, resultsP, resultP, oneOr, reduceCtorEq, reduceIte, Nat.reduceEqDiff, Nat.reduceAdd, Nat.zero_add, Nat.reduceMul, Nat.reduceLT, Nat.reduceLeDiff, Int.reduceLT, Int.reduceNeg, Int.reduceLE, appendP, appendAt, letGo, setLoc, locVal, Int.reduceToNat, boxCells, und, TG, SE, SC, ENf, List.getElem?_concat_length, List.getElem?_cons_zero, List.getElem?_cons_succ, List.take_nil, unP, hen, htu, hky, hcs, loadR, loadP, storeR, storeK, storeCellsP, laid, lay, setBox, ss1, elemsOf, bsO, Int.reduceSub, Int.reduceMul, Int.reduceAdd, List.length_cons, List.length_nil, Nat.le_refl, Option.map_some, List.take_succ_cons, List.take_zero, List.drop_succ_cons, List.drop_zero, List.drop_nil, List.filter_nil, List.nil_append, List.cons_append, Int.reduceBEq, Int.reduceBNe, Int.reduceGT, Int.reduceGE, Bool.not_true, Bool.not_false, o1, o2, o3, o4, o5, c1, c2, c3, c4, c5, k1, k2, k3, k4, k5, k6, p1, p2, n0, n1, n2, r1, w0, w1, w2, w3, z1, r2, r3, r4]
      exact ⟨_, rfl⟩
    rw [if_neg (by omega)]
    by_cases f1 : ck ≥ 1
    · have f2 : ¬ (ck ≤ 4) := by omega
      obtain ⟨ev, eo, so, co, ⟨hev, hco⟩, R⟩ := RULES CC; rw [← hev]
      rw [← hco] at o1 o2 o3 o4 o5
      simp only [fpart, part', Tryd.f20, Option.getD]
      simp (maxSteps := 5000000) only [SA, SB, SD, R, guardAt, binP, intP, indexAddrP, elemsOf, readCells, lenP, lenAt, resultsP, resultP, oneOr, reduceCtorEq, reduceIte, Nat.reduceEqDiff, Nat.reduceAdd, Nat.zero_add, Nat.reduceMul, Nat.reduceLT, Nat.reduceLeDiff, Int.reduceLT, Int.reduceNeg, Int.reduceLE, appendP, appendAt, letGo, setLoc, locVal, Int.reduceToNat, boxCells, und, TG, SE, SC, ENf, List.getElem?_concat_length, List.getElem?_cons_zero, List.getElem?_cons_succ, List.take_nil, unP, hen, htu, hky, hcs, loadR, loadP, storeR, storeK, storeCellsP, laid, lay, setBox, ss1, elemsOf, bsO, Int.reduceSub, Int.reduceMul, Int.reduceAdd, List.length_cons, List.length_nil, Nat.le_refl, Option.map_some, List.take_succ_cons, List.take_zero, List.drop_succ_cons, List.drop_zero, List.drop_nil, List.filter_nil, List.nil_append, List.cons_append, Int.reduceBEq, Int.reduceBNe, Int.reduceGT, Int.reduceGE, Bool.not_true, Bool.not_false, o1, o2, o3, o4, o5, c1, c2, c3, c4, c5, k1, k2, k3, k4, k5, k6, p1, p2, n0, n1, n2, r1, w0, w1, w2, w3, z1, f1, f2]
      exact ⟨_, rfl⟩
    · obtain ⟨ev, eo, so, co, ⟨hev, hco⟩, R⟩ := RULES CC; rw [← hev]
      rw [← hco] at o1 o2 o3 o4 o5
      simp only [fpart, part', Tryd.f20, Option.getD]
      simp (maxSteps := 5000000) only [SA, SB, SD, R, guardAt, binP, intP, indexAddrP, elemsOf, readCells, lenP, lenAt, resultsP, resultP, oneOr, reduceCtorEq, reduceIte, Nat.reduceEqDiff, Nat.reduceAdd, Nat.zero_add, Nat.reduceMul, Nat.reduceLT, Nat.reduceLeDiff, Int.reduceLT, Int.reduceNeg, Int.reduceLE, appendP, appendAt, letGo, setLoc, locVal, Int.reduceToNat, boxCells, und, TG, SE, SC, ENf, List.getElem?_concat_length, List.getElem?_cons_zero, List.getElem?_cons_succ, List.take_nil, unP, hen, htu, hky, hcs, loadR, loadP, storeR, storeK, storeCellsP, laid, lay, setBox, ss1, elemsOf, bsO, Int.reduceSub, Int.reduceMul, Int.reduceAdd, List.length_cons, List.length_nil, Nat.le_refl, Option.map_some, List.take_succ_cons, List.take_zero, List.drop_succ_cons, List.drop_zero, List.drop_nil, List.filter_nil, List.nil_append, List.cons_append, Int.reduceBEq, Int.reduceBNe, Int.reduceGT, Int.reduceGE, Bool.not_true, Bool.not_false, o1, o2, o3, o4, o5, c1, c2, c3, c4, c5, k1, k2, k3, k4, k5, k6, p1, p2, n0, n1, n2, r1, w0, w1, w2, w3, z1, f1]
      exact ⟨_, rfl⟩
  have q1 : (pv == []) = false := by simpa using hv
  rw [q1] at n1
  by_cases hw : pv = sN
  · have q2 : (pv == sN) = true := by simpa using hw
    rw [q2] at n2
    rw [if_pos (.inr hw)] at ht2
    subst ht2
    by_cases e1 : ck = 1
    · subst e1
      rw [if_pos (by omega)]
      have r2 := r2 1
      have r3 := r3 1
      have r4 := r4 1
      have eN : (1 : Int).toNat = 1 := rfl
      have eO : origN 1 = [101, 110, 101, 114, 103, 121] := rfl
      rw [eO] at r2 r3 r4
      rw [eN, eO]
      obtain ⟨ev, eo, so, co, ⟨hev, hco⟩, R⟩ := RULES CC; rw [← hev]
      rw [← hco] at o1 o2 o3 o4 o5
      simp only [fpart, part', Tryd.f20, Option.getD]
      simp (maxSteps := 5000000) only [SA, SB, SD, R, guardAt, binP, intP, indexAddrP, elemsOf, readCells, lenP, lenAt, resultsP, resultP, oneOr, reduceCtorEq, reduceIte, Nat.reduceEqDiff, Nat.reduceAdd, Nat.zero_add, Nat.reduceMul, Nat.reduceLT, Nat.reduceLeDiff, Int.reduceLT, Int.reduceNeg, Int.reduceLE, appendP, appendAt, letGo, setLoc, locVal, Int.reduceToNat, boxCells, und, TG, SE, SC, ENf, List.getElem?_concat_length, List.getElem?_cons_zero, List.getElem?_cons_succ, List.take_nil, unP, hen, htu, hky, hcs, loadR, loadP, storeR, storeK, storeCellsP, laid, lay, setBox, ss1, elemsOf, bsO, Int.reduceSub, Int.reduceMul, Int.reduceAdd, List.length_cons, List.length_nil, Nat.le_refl, Option.map_some, List.take_succ_cons, List.take_zero, List.drop_succ_cons, List.drop_zero, List.drop_nil, List.filter_nil, List.nil_append, List.cons_append, Int.reduceBEq, Int.reduceBNe, Int.reduceGT, Int.reduceGE, Bool.not_true, Bool.not_false, o1, o2, o3, o4, o5, c1, c2, c3, c4, c5, k1, k2, k3, k4, k5, k6, p1, p2, n0, n1, n2, r1, w0, w1, w2, w3, z1, r2, r3, r4]
      exact ⟨_, rfl⟩
    by_cases e2 : ck = 2
    · subst e2
      rw [if_pos (by omega)]
      have r2 := r2 2
      have r3 := r3 2
      have r4 := r4 2
      have eN : (2 : Int).toNat = 2 := rfl
      have eO : origN 2 = [114, 117, 108, 101] := rfl
      rw [eO] at r2 r3 r4
      rw [eN, eO]
      obtain ⟨ev, eo, so, co, ⟨hev, hco⟩, R⟩ := RULES CC; rw [← hev]
      rw [← hco] at o1 o2 o3 o4 o5
      simp only [fpart, part', Tryd.f20, Option.getD]
      simp (maxSteps := 5000000) only [SA, SB, SD, R, guardAt, binP, intP, indexAddrP, elemsOf, readCells, lenP, lenAt, resultsP, resultP, oneOr, reduceCtorEq, reduceIte, Nat.reduceEqDiff, Nat.reduceAdd, Nat.zero_add, Nat.reduceMul, Nat.reduceLT, Nat.reduceLeDiff, Int.reduceLT, Int.reduceNeg, Int.reduceLE, appendP, appendAt, letGo, setLoc, locVal, Int.reduceToNat, boxCells, und, TG, SE, SC, ENf, List.getElem?_concat_length, List.getElem?_cons_zero, List.getElem?_cons_succ, List.take_nil, unP, hen, htu, hky, hcs, loadR, loadP, storeR, storeK, storeCellsP, laid, lay, setBox, ss1, elemsOf, bsO, Int.reduceSub, Int.reduceMul, Int.reduceAdd, List.length_cons, List.length_nil, Nat.le_refl, Option.map_some, List.take_succ_cons, List.take_zero, List.drop_succ_cons, List.drop_zero, List.drop_nil, List.filter_nil, List.nil_append, List.cons_append, Int.reduceBEq, Int.reduceBNe, Int.reduceGT, Int.reduceGE, Bool.not_true, Bool.not_false, o1, o2, o3, o4, o5, c1, c2, c3, c4, c5, k1, k2, k3, k4, k5, k6, p1, p2, n0, n1, n2, r1, w0, w1, w2, w3, z1, r2, r3, r4]
      exact ⟨_, rfl⟩
    by_cases e3 : ck = 3
    · subst e3
      rw [if_pos (by omega)]
      have r2 := r2 3
      have r3 := r3 3
      have r4 := r4 3
      have eN : (3 : Int).toNat = 3 := rfl
      have eO : origN 3 = [109, 101, 109, 98, 101, 114] := rfl
      rw [eO] at r2 r3 r4
      rw [eN, eO]
      obtain ⟨ev, eo, so, co, ⟨hev, hco⟩, R⟩ := RULES CC; rw [← hev]
      rw [← hco] at o1 o2 o3 o4 o5
      simp only [fpart, part', Tryd.f20, Option.getD]
      simp (maxSteps := 5000000) only [SA, SB, SD, R, guardAt, binP, intP, indexAddrP, elemsOf, readCells, lenP, lenAt, resultsP, resultP, oneOr, reduceCtorEq, reduceIte, Nat.reduceEqDiff, Nat.reduceAdd, Nat.zero_add, Nat.reduceMul, Nat.reduceLT, Nat.reduceLeDiff, Int.reduceLT, Int.reduceNeg, Int.reduceLE, appendP, appendAt, letGo, setLoc, locVal, Int.reduceToNat, boxCells, und, TG, SE, SC, ENf, List.getElem?_concat_length, List.getElem?_cons_zero, List.getElem?_cons_succ, List.take_nil, unP, hen, htu, hky, hcs, loadR, loadP, storeR, storeK, storeCellsP, laid, lay, setBox, ss1, elemsOf, bsO, Int.reduceSub, Int.reduceMul, Int.reduceAdd, List.length_cons, List.length_nil, Nat.le_refl, Option.map_some, List.take_succ_cons, List.take_zero, List.drop_succ_cons, List.drop_zero, List.drop_nil, List.filter_nil, List.nil_append, List.cons_append, Int.reduceBEq, Int.reduceBNe, Int.reduceGT, Int.reduceGE, Bool.not_true, Bool.not_false, o1, o2, o3, o4, o5, c1, c2, c3, c4, c5, k1, k2, k3, k4, k5, k6, p1, p2, n0, n1, n2, r1, w0, w1, w2, w3, z1, r2, r3, r4]
      exact ⟨_, rfl⟩
    by_cases e4 : ck = 4
    · subst e4
      rw [if_pos (by omega)]
      have r2 := r2 4
      have r3 := r3 4
      have r4 := r4 4
      have eN : (4 : Int).toNat = 4 := rfl
      have eO : origN 4 = [115, 97, 102, 101, 116, 121] := rfl
      rw [eO] at r2 r3 r4
      rw [eN, eO]
      obtain ⟨ev, eo, so, co, ⟨hev, hco⟩, R⟩ := RULES CC; rw [← hev]
      rw [← hco] at o1 o2 o3 o4 o5
      simp only [fpart, part', Tryd.f20, Option.getD]
      simp (maxSteps := 5000000) only [SA, SB, SD, R, guardAt, binP, intP, indexAddrP, elemsOf, readCells, lenP, lenAt, resultsP, resultP, oneOr, reduceCtorEq, reduceIte, Nat.reduceEqDiff, Nat.reduceAdd, Nat.zero_add, Nat.reduceMul, Nat.reduceLT, Nat.reduceLeDiff, Int.reduceLT, Int.reduceNeg, Int.reduceLE, appendP, appendAt, letGo, setLoc, locVal, Int.reduceToNat, boxCells, und, TG, SE, SC, ENf, List.getElem?_concat_length, List.getElem?_cons_zero, List.getElem?_cons_succ, List.take_nil, unP, hen, htu, hky, hcs, loadR, loadP, storeR, storeK, storeCellsP, laid, lay, setBox, ss1, elemsOf, bsO, Int.reduceSub, Int.reduceMul, Int.reduceAdd, List.length_cons, List.length_nil, Nat.le_refl, Option.map_some, List.take_succ_cons, List.take_zero, List.drop_succ_cons, List.drop_zero, List.drop_nil, List.filter_nil, List.nil_append, List.cons_append, Int.reduceBEq, Int.reduceBNe, Int.reduceGT, Int.reduceGE, Bool.not_true, Bool.not_false, o1, o2, o3, o4, o5, c1, c2, c3, c4, c5, k1, k2, k3, k4, k5, k6, p1, p2, n0, n1, n2, r1, w0, w1, w2, w3, z1, r2, r3, r4]
      exact ⟨_, rfl⟩
    rw [if_neg (by omega)]
    by_cases f1 : ck ≥ 1
    · have f2 : ¬ (ck ≤ 4) := by omega
      obtain ⟨ev, eo, so, co, ⟨hev, hco⟩, R⟩ := RULES CC; rw [← hev]
      rw [← hco] at o1 o2 o3 o4 o5
      simp only [fpart, part', Tryd.f20, Option.getD]
      simp (maxSteps := 5000000) only [SA, SB, SD, R, guardAt, binP, intP, indexAddrP, elemsOf, readCells, lenP, lenAt, resultsP, resultP, oneOr, reduceCtorEq, reduceIte, Nat.reduceEqDiff, Nat.reduceAdd, Nat.zero_add, Nat.reduceMul, Nat.reduceLT, Nat.reduceLeDiff, Int.reduceLT, Int.reduceNeg, Int.reduceLE, appendP, appendAt, letGo, setLoc, locVal, Int.reduceToNat, boxCells, und, TG, SE, SC, ENf, List.getElem?_concat_length, List.getElem?_cons_zero, List.getElem?_cons_succ, List.take_nil, unP, hen, htu, hky, hcs, loadR, loadP, storeR, storeK, storeCellsP, laid, lay, setBox, ss1, elemsOf, bsO, Int.reduceSub, Int.reduceMul, Int.reduceAdd, List.length_cons, List.length_nil, Nat.le_refl, Option.map_some, List.take_succ_cons, List.take_zero, List.drop_succ_cons, List.drop_zero, List.drop_nil, List.filter_nil, List.nil_append, List.cons_append, Int.reduceBEq, Int.reduceBNe, Int.reduceGT, Int.reduceGE, Bool.not_true, Bool.not_false, o1, o2, o3, o4, o5, c1, c2, c3, c4, c5, k1, k2, k3, k4, k5, k6, p1, p2, n0, n1, n2, r1, w0, w1, w2, w3, z1, f1, f2]
      exact ⟨_, rfl⟩
    · obtain ⟨ev, eo, so, co, ⟨hev, hco⟩, R⟩ := RULES CC; rw [← hev]
      rw [← hco] at o1 o2 o3 o4 o5
      simp only [fpart, part', Tryd.f20, Option.getD]
      simp (maxSteps := 5000000) only [SA, SB, SD, R, guardAt, binP, intP, indexAddrP, elemsOf, readCells, lenP, lenAt, resultsP, resultP, oneOr, reduceCtorEq, reduceIte, Nat.reduceEqDiff, Nat.reduceAdd, Nat.zero_add, Nat.reduceMul, Nat.reduceLT, Nat.reduceLeDiff, Int.reduceLT, Int.reduceNeg, Int.reduceLE, appendP, appendAt, letGo, setLoc, locVal, Int.reduceToNat, boxCells, und, TG, SE, SC, ENf, List.getElem?_concat_length, List.getElem?_cons_zero, List.getElem?_cons_succ, List.take_nil, unP, hen, htu, hky, hcs, loadR, loadP, storeR, storeK, storeCellsP, laid, lay, setBox, ss1, elemsOf, bsO, Int.reduceSub, Int.reduceMul, Int.reduceAdd, List.length_cons, List.length_nil, Nat.le_refl, Option.map_some, List.take_succ_cons, List.take_zero, List.drop_succ_cons, List.drop_zero, List.drop_nil, List.filter_nil, List.nil_append, List.cons_append, Int.reduceBEq, Int.reduceBNe, Int.reduceGT, Int.reduceGE, Bool.not_true, Bool.not_false, o1, o2, o3, o4, o5, c1, c2, c3, c4, c5, k1, k2, k3, k4, k5, k6, p1, p2, n0, n1, n2, r1, w0, w1, w2, w3, z1, f1]
      exact ⟨_, rfl⟩
  have q2 : (pv == sN) = false := by simpa using hw
  rw [q2] at n2
  rw [if_neg (by rintro (h | h); exact hv h; exact hw h)] at ht2
  rw [← ht2] at p2
  by_cases e1 : ck = 1
  · subst e1
    rw [if_pos (by omega)]
    have r2 := r2 1
    have r3 := r3 1
    have r4 := r4 1
    have eN : (1 : Int).toNat = 1 := rfl
    have eO : origN 1 = [101, 110, 101, 114, 103, 121] := rfl
    rw [eO] at r2 r3 r4
    rw [eN, eO]
    obtain ⟨ev, eo, so, co, ⟨hev, hco⟩, R⟩ := RULES CC; rw [← hev]
    rw [← hco] at o1 o2 o3 o4 o5
    simp only [fpart, part', Tryd.f20, Option.getD]
    simp (maxSteps := 5000000) only [SA, SB, SD, R, guardAt, binP, intP, indexAddrP, elemsOf, readCells, lenP, lenAt, resultsP, resultP, oneOr, reduceCtorEq, reduceIte, Nat.reduceEqDiff, Nat.reduceAdd, Nat.zero_add, Nat.reduceMul, Nat.reduceLT, Nat.reduceLeDiff, Int.reduceLT, Int.reduceNeg, Int.reduceLE, appendP, appendAt, letGo, setLoc, locVal, Int.reduceToNat, boxCells, und, TG, SE, SC, ENf, List.getElem?_concat_length, List.getElem?_cons_zero, List.getElem?_cons_succ, List.take_nil, unP, hen, htu, hky, hcs, loadR, loadP, storeR, storeK, storeCellsP, laid, lay, setBox, ss1, elemsOf, bsO, Int.reduceSub, Int.reduceMul, Int.reduceAdd, List.length_cons, List.length_nil, Nat.le_refl, Option.map_some, List.take_succ_cons, List.take_zero, List.drop_succ_cons, List.drop_zero, List.drop_nil, List.filter_nil, List.nil_append, List.cons_append, Int.reduceBEq, Int.reduceBNe, Int.reduceGT, Int.reduceGE, Bool.not_true, Bool.not_false, o1, o2, o3, o4, o5, c1, c2, c3, c4, c5, k1, k2, k3, k4, k5, k6, p1, p2, n0, n1, n2, r1, w0, w1, w2, w3, z1, r2, r3, r4]
    exact ⟨_, rfl⟩
  by_cases e2 : ck = 2
  · subst e2
    rw [if_pos (by omega)]
    have r2 := r2 2
    have r3 := r3 2
    have r4 := r4 2
    have eN : (2 : Int).toNat = 2 := rfl
    have eO : origN 2 = [114, 117, 108, 101] := rfl
    rw [eO] at r2 r3 r4
    rw [eN, eO]
    obtain ⟨ev, eo, so, co, ⟨hev, hco⟩, R⟩ := RULES CC; rw [← hev]
    rw [← hco] at o1 o2 o3 o4 o5
    simp only [fpart, part', Tryd.f20, Option.getD]
    simp (maxSteps := 5000000) only [SA, SB, SD, R, guardAt, binP, intP, indexAddrP, elemsOf, readCells, lenP, lenAt, resultsP, resultP, oneOr, reduceCtorEq, reduceIte, Nat.reduceEqDiff, Nat.reduceAdd, Nat.zero_add, Nat.reduceMul, Nat.reduceLT, Nat.reduceLeDiff, Int.reduceLT, Int.reduceNeg, Int.reduceLE, appendP, appendAt, letGo, setLoc, locVal, Int.reduceToNat, boxCells, und, TG, SE, SC, ENf, List.getElem?_concat_length, List.getElem?_cons_zero, List.getElem?_cons_succ, List.take_nil, unP, hen, htu, hky, hcs, loadR, loadP, storeR, storeK, storeCellsP, laid, lay, setBox, ss1, elemsOf, bsO, Int.reduceSub, Int.reduceMul, Int.reduceAdd, List.length_cons, List.length_nil, Nat.le_refl, Option.map_some, List.take_succ_cons, List.take_zero, List.drop_succ_cons, List.drop_zero, List.drop_nil, List.filter_nil, List.nil_append, List.cons_append, Int.reduceBEq, Int.reduceBNe, Int.reduceGT, Int.reduceGE, Bool.not_true, Bool.not_false, o1, o2, o3, o4, o5, c1, c2, c3, c4, c5, k1, k2, k3, k4, k5, k6, p1, p2, n0, n1, n2, r1, w0, w1, w2, w3, z1, r2, r3, r4]
    exact ⟨_, rfl⟩
  by_cases e3 : ck = 3
  · subst e3
    rw [if_pos (by omega)]
    have r2 := r2 3
    have r3 := r3 3
    have r4 := r4 3
    have eN : (3 : Int).toNat = 3 := rfl
    have eO : origN 3 = [109, 101, 109, 98, 101, 114] := rfl
    rw [eO] at r2 r3 r4
    rw [eN, eO]
    obtain ⟨ev, eo, so, co, ⟨hev, hco⟩, R⟩ := RULES CC; rw [← hev]
    rw [← hco] at o1 o2 o3 o4 o5
    simp only [fpart, part', Tryd.f20, Option.getD]
    simp (maxSteps := 5000000) only [SA, SB, SD, R, guardAt, binP, intP, indexAddrP, elemsOf, readCells, lenP, lenAt, resultsP, resultP, oneOr, reduceCtorEq, reduceIte, Nat.reduceEqDiff, Nat.reduceAdd, Nat.zero_add, Nat.reduceMul, Nat.reduceLT, Nat.reduceLeDiff, Int.reduceLT, Int.reduceNeg, Int.reduceLE, appendP, appendAt, letGo, setLoc, locVal, Int.reduceToNat, boxCells, und, TG, SE, SC, ENf, List.getElem?_concat_length, List.getElem?_cons_zero, List.getElem?_cons_succ, List.take_nil, unP, hen, htu, hky, hcs, loadR, loadP, storeR, storeK, storeCellsP, laid, lay, setBox, ss1, elemsOf, bsO, Int.reduceSub, Int.reduceMul, Int.reduceAdd, List.length_cons, List.length_nil, Nat.le_refl, Option.map_some, List.take_succ_cons, List.take_zero, List.drop_succ_cons, List.drop_zero, List.drop_nil, List.filter_nil, List.nil_append, List.cons_append, Int.reduceBEq, Int.reduceBNe, Int.reduceGT, Int.reduceGE, Bool.not_true, Bool.not_false, o1, o2, o3, o4, o5, c1, c2, c3, c4, c5, k1, k2, k3, k4, k5, k6, p1, p2, n0, n1, n2, r1, w0, w1, w2, w3, z1, r2, r3, r4]
    exact ⟨_, rfl⟩
  by_cases e4 : ck = 4
  · subst e4
    rw [if_pos (by omega)]
    have r2 := r2 4
    have r3 := r3 4
    have r4 := r4 4
    have eN : (4 : Int).toNat = 4 := rfl
    have eO : origN 4 = [115, 97, 102, 101, 116, 121] := rfl
    rw [eO] at r2 r3 r4
    rw [eN, eO]
    obtain ⟨ev, eo, so, co, ⟨hev, hco⟩, R⟩ := RULES CC; rw [← hev]
    rw [← hco] at o1 o2 o3 o4 o5
    simp only [fpart, part', Tryd.f20, Option.getD]
    simp (maxSteps := 5000000) only [SA, SB, SD, R, guardAt, binP, intP, indexAddrP, elemsOf, readCells, lenP, lenAt, resultsP, resultP, oneOr, reduceCtorEq, reduceIte, Nat.reduceEqDiff, Nat.reduceAdd, Nat.zero_add, Nat.reduceMul, Nat.reduceLT, Nat.reduceLeDiff, Int.reduceLT, Int.reduceNeg, Int.reduceLE, appendP, appendAt, letGo, setLoc, locVal, Int.reduceToNat, boxCells, und, TG, SE, SC, ENf, List.getElem?_concat_length, List.getElem?_cons_zero, List.getElem?_cons_succ, List.take_nil, unP, hen, htu, hky, hcs, loadR, loadP, storeR, storeK, storeCellsP, laid, lay, setBox, ss1, elemsOf, bsO, Int.reduceSub, Int.reduceMul, Int.reduceAdd, List.length_cons, List.length_nil, Nat.le_refl, Option.map_some, List.take_succ_cons, List.take_zero, List.drop_succ_cons, List.drop_zero, List.drop_nil, List.filter_nil, List.nil_append, List.cons_append, Int.reduceBEq, Int.reduceBNe, Int.reduceGT, Int.reduceGE, Bool.not_true, Bool.not_false, o1, o2, o3, o4, o5, c1, c2, c3, c4, c5, k1, k2, k3, k4, k5, k6, p1, p2, n0, n1, n2, r1, w0, w1, w2, w3, z1, r2, r3, r4]
    exact ⟨_, rfl⟩
  rw [if_neg (by omega)]
  by_cases f1 : ck ≥ 1
  · have f2 : ¬ (ck ≤ 4) := by omega
    obtain ⟨ev, eo, so, co, ⟨hev, hco⟩, R⟩ := RULES CC; rw [← hev]
    rw [← hco] at o1 o2 o3 o4 o5
    simp only [fpart, part', Tryd.f20, Option.getD]
    simp (maxSteps := 5000000) only [SA, SB, SD, R, guardAt, binP, intP, indexAddrP, elemsOf, readCells, lenP, lenAt, resultsP, resultP, oneOr, reduceCtorEq, reduceIte, Nat.reduceEqDiff, Nat.reduceAdd, Nat.zero_add, Nat.reduceMul, Nat.reduceLT, Nat.reduceLeDiff, Int.reduceLT, Int.reduceNeg, Int.reduceLE, appendP, appendAt, letGo, setLoc, locVal, Int.reduceToNat, boxCells, und, TG, SE, SC, ENf, List.getElem?_concat_length, List.getElem?_cons_zero, List.getElem?_cons_succ, List.take_nil, unP, hen, htu, hky, hcs, loadR, loadP, storeR, storeK, storeCellsP, laid, lay, setBox, ss1, elemsOf, bsO, Int.reduceSub, Int.reduceMul, Int.reduceAdd, List.length_cons, List.length_nil, Nat.le_refl, Option.map_some, List.take_succ_cons, List.take_zero, List.drop_succ_cons, List.drop_zero, List.drop_nil, List.filter_nil, List.nil_append, List.cons_append, Int.reduceBEq, Int.reduceBNe, Int.reduceGT, Int.reduceGE, Bool.not_true, Bool.not_false, o1, o2, o3, o4, o5, c1, c2, c3, c4, c5, k1, k2, k3, k4, k5, k6, p1, p2, n0, n1, n2, r1, w0, w1, w2, w3, z1, f1, f2]
    exact ⟨_, rfl⟩
  · obtain ⟨ev, eo, so, co, ⟨hev, hco⟩, R⟩ := RULES CC; rw [← hev]
    rw [← hco] at o1 o2 o3 o4 o5
    simp only [fpart, part', Tryd.f20, Option.getD]
    simp (maxSteps := 5000000) only [SA, SB, SD, R, guardAt, binP, intP, indexAddrP, elemsOf, readCells, lenP, lenAt, resultsP, resultP, oneOr, reduceCtorEq, reduceIte, Nat.reduceEqDiff, Nat.reduceAdd, Nat.zero_add, Nat.reduceMul, Nat.reduceLT, Nat.reduceLeDiff, Int.reduceLT, Int.reduceNeg, Int.reduceLE, appendP, appendAt, letGo, setLoc, locVal, Int.reduceToNat, boxCells, und, TG, SE, SC, ENf, List.getElem?_concat_length, List.getElem?_cons_zero, List.getElem?_cons_succ, List.take_nil, unP, hen, htu, hky, hcs, loadR, loadP, storeR, storeK, storeCellsP, laid, lay, setBox, ss1, elemsOf, bsO, Int.reduceSub, Int.reduceMul, Int.reduceAdd, List.length_cons, List.length_nil, Nat.le_refl, Option.map_some, List.take_succ_cons, List.take_zero, List.drop_succ_cons, List.drop_zero, List.drop_nil, List.filter_nil, List.nil_append, List.cons_append, Int.reduceBEq, Int.reduceBNe, Int.reduceGT, Int.reduceGE, Bool.not_true, Bool.not_false, o1, o2, o3, o4, o5, c1, c2, c3, c4, c5, k1, k2, k3, k4, k5, k6, p1, p2, n0, n1, n2, r1, w0, w1, w2, w3, z1, f1]
    exact ⟨_, rfl⟩
theorem law_WhyTexts (e : En) (he : okEn e) (hs : smE e) : ∃ bx, callL CC 5 [enV e] [] = some (.ret (.bool true), bx) := by
  obtain ⟨b1, h1⟩ := call_why_Text e he hs
  obtain ⟨b2, h2⟩ := call_R56_Text e he hs
  rw [txR_eq] at h2
  have o1 := fun bx => callOp_of (bx := bx) rfl (show pureL [enV e] = true from rfl) h1 rfl
  have o2 := fun bx => callOp_of (bx := bx) rfl (show pureL [enV e] = true from rfl) h2 rfl
  have oaw := op_awake
  clear h1 h2
  generalize txT e = s at *
  have hss : strP .eql s s = some (.bool true) := by simp [strP]
  obtain ⟨xno, xtk, xk, xkey, xval, xca, xpar⟩ := e
  unfold enV at o1 o2 ⊢
  simp only at o1 o2 ⊢
  obtain ⟨tn, hen⟩ := ENs
  obtain ⟨tu, htu⟩ := VLs
  obtain ⟨tk, hky⟩ := KYs
  obtain ⟨tc, hcs⟩ := CSs
  rw [callL_enter (fn := Tryd.f5) (c := Tryd.f5.body.getD .skip) rfl rfl fat_L56_WhyTexts rfl ok_L56_WhyTexts (Nat.le_of_ble_eq_true rfl)]
  obtain ⟨ev, eo, so, co, ⟨hev, hco⟩, R⟩ := RULES CC; rw [← hev]
  rw [← hco] at o1 o2 oaw
  simp only [fpart, part', Tryd.f5, Option.getD]
  simp (maxSteps := 5000000) only [SA, SB, SD, R, guardAt, binP, intP, indexAddrP, elemsOf, readCells, lenP, lenAt, resultsP, resultP, oneOr, reduceCtorEq, reduceIte, Nat.reduceEqDiff, Nat.reduceAdd, Nat.zero_add, Nat.reduceMul, Nat.reduceLT, Nat.reduceLeDiff, Int.reduceLT, Int.reduceNeg, Int.reduceLE, appendP, appendAt, letGo, setLoc, locVal, Int.reduceToNat, boxCells, und, TG, SE, SC, ENf, List.getElem?_concat_length, List.getElem?_cons_zero, List.getElem?_cons_succ, List.take_nil, unP, hen, htu, hky, hcs, loadR, loadP, storeR, storeK, storeCellsP, laid, lay, setBox, ss1, elemsOf, bsO, Int.reduceSub, Int.reduceMul, Int.reduceAdd, List.length_cons, List.length_nil, Nat.le_refl, Option.map_some, List.take_succ_cons, List.take_zero, List.drop_succ_cons, List.drop_zero, List.drop_nil, List.filter_nil, List.nil_append, List.cons_append, Int.reduceBEq, Int.reduceBNe, Int.reduceGT, Int.reduceGE, Bool.not_true, Bool.not_false, o1, o2, oaw, hss]
  exact ⟨_, rfl⟩
end Go.HH
