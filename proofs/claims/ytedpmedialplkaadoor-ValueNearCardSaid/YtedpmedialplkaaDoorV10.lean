/-
  Values: THE LAW of the nearest value.
-/
import Derived.Test.YtedpmedialplkaaDoorV9
namespace Go.HH
open Go Go.Proofs
set_option maxRecDepth 100000
set_option linter.unusedSimpArgs false
set_option linter.unusedVariables false
theorem ok_L20_ValueNear : fnOK CC Tryd.f10 (Tryd.f10.body.getD .skip) = true := by kernel_rfl
theorem fat_L20_ValueNear : CC.P.funcs[10]? = some Tryd.f10 := by kernel_rfl
theorem ck_two {n : Int} (h : inR n = true) : ckV (2, n, []) = 0 := by unfold ckV okN; simp [h]
theorem ck_inv {v : Vl} (h : ckV v = 0) (k : v.1 = 2) : inR v.2.1 = true ∧ v.2.2 = [] := by
  obtain ⟨k', n, s⟩ := v
  simp only at k
  subst k
  have ho : okN 2 n = some (inR n) := rfl
  unfold ckV at h
  simp only [ho] at h
  simp only
  by_cases hb : inR n = true
  · rw [hb] at h
    simp only at h
    refine ⟨hb, ?_⟩
    by_cases hl : 60 < s.length
    · rw [if_pos hl] at h; cases h
    · rw [if_neg hl] at h
      by_cases hs : s = []
      · exact hs
      · rw [if_pos ⟨hs, by decide⟩] at h; cases h
  · have hb : inR n = false := by simpa using hb
    rw [hb] at h
    cases h
theorem df_kd {a : At} (h : dfV a = 0) : 1 ≤ a.kd ∧ a.kd ≤ 4 ∧ (a.kd = 3 → 1 ≤ a.en.length) := by
  unfold dfV at h
  split at h
  · cases h
  · split at h
    · cases h
    · split at h
      · cases h
      · rename_i h1 _
        refine ⟨by omega, by omega, fun k => ?_⟩
        rw [if_pos k] at h
        unfold mbV at h
        split at h
        · cases h
        · omega
theorem clamp_in (n lo hi : Int) (h : lo ≤ hi) : lo ≤ clampI n lo hi ∧ clampI n lo hi ≤ hi := by unfold clampI; split <;> (try split) <;> omega
/-- a limited number fits -/
theorem ft_lim {a : At} (h : dfV a = 0) (k : a.kd = 2) (n : Int) : ftV a (2, clampI n a.mn a.mx, []) = 0 := by
  obtain ⟨b1, b2, b3⟩ := df_bd h k
  have b1 := inR_t b1
  have b2 := inR_t b2
  have hc := clamp_in n a.mn a.mx b3
  have ck : ckV (2, clampI n a.mn a.mx, []) = 0 := ck_two (decide_eq_true (by omega))
  unfold ftV
  rw [if_neg (fun x => x h), if_neg (fun x => x ck), if_neg (fun x => x k.symm)]
  rw [if_neg]
  rintro (⟨_, h | h⟩ | ⟨h, _⟩)
  · simp only at h; omega
  · simp only at h; omega
  · simp at h
theorem ft_zero {a : At} (h : dfV a = 0) : ftV a (zroV a) = 0 := by
  unfold zroV
  rw [if_neg (fun x => x h)]
  unfold limV
  by_cases k : a.kd = 2
  · rw [if_pos ⟨h, k, k⟩]
    exact ft_lim h k 0
  · rw [if_neg (fun x => k x.2.1)]
    obtain ⟨k1, k2, k3⟩ := df_kd h
    have ck : ckV (a.kd, 0, []) = 0 := by
      unfold ckV okN
      have : a.kd = 1 ∨ a.kd = 3 ∨ a.kd = 4 := by omega
      rcases this with e | e | e <;> rw [e] <;> rfl
    unfold ftV
    rw [if_neg (fun x => x h), if_neg (fun x => x ck), if_neg (fun x => x rfl)]
    rw [if_neg]
    rintro (⟨h, _⟩ | ⟨h, h2⟩)
    · exact k h
    · have := k3 h
      simp only at h2
      omega
theorem ft_in {a : At} {n : Int} {s : List UInt8} (h : ftV a (2, n, s) = 0) (k : a.kd = 2) : a.mn ≤ n ∧ n ≤ a.mx := by
  unfold ftV at h
  split at h
  · rename_i h1; exact absurd h h1
  · split at h
    · rename_i h1; exact absurd h h1
    · split at h
      · cases h
      · split at h
        · cases h
        · rename_i h1
          simp only [ge_iff_le, true_and, gt_iff_lt] at h1
          omega
theorem clamp_id {n lo hi : Int} (h : lo ≤ n ∧ n ≤ hi) : clampI n lo hi = n := by unfold clampI; rw [if_neg (by omega), if_neg (by omega)]
/-- no number within the bounds is nearer -/
theorem clamp_near {n lo hi o : Int} (h : lo ≤ o ∧ o ≤ hi) : (if n - clampI n lo hi < 0 then 0 - (n - clampI n lo hi) else n - clampI n lo hi) ≤ (if n - o < 0 then 0 - (n - o) else n - o) := by
  unfold clampI
  split <;> split <;> (try split) <;> (try split) <;> omega
theorem near_early_q (xs : List PV) (nm : List UInt8) (mn mx : Int) (wr sf : Bool) (n o c q p zk zn : Int) (zs : List UInt8) (haw : ∀ bx, callOp CC (callL CC) 12 [] bx = some (.ret (.bool true), bx)) (hpu : pureL xs = true) (hf : ∀ bx, callOp CC (callL CC) 11 [.agg [.str nm, .int .i64 2, .int .i64 mn, .int .i64 mx, .sl xs, .bool wr, .bool sf], .agg [.int .i64 2, .int .i64 n, .str []]] bx = some (.ret (.bool true), bx)) (d1 : ∀ bx, callOp CC (callL CC) 15 [.agg [.str nm, .int .i64 2, .int .i64 mn, .int .i64 mx, .sl xs, .bool wr, .bool sf]] bx = some (.ret (.int .i64 0), bx)) (z1 : ∀ bx, callOp CC (callL CC) 19 [.agg [.str nm, .int .i64 2, .int .i64 mn, .int .i64 mx, .sl xs, .bool wr, .bool sf]] bx = some (.ret (.agg [.int .i64 zk, .int .i64 zn, .str zs]), bx)) (f1 : ∀ bx, callOp CC (callL CC) 17 [.agg [.str nm, .int .i64 2, .int .i64 mn, .int .i64 mx, .sl xs, .bool wr, .bool sf], .agg [.int .i64 zk, .int .i64 zn, .str zs]] bx = some (.ret (.int .i64 0), bx)) (c1 : ∀ bx, callOp CC (callL CC) 13 [.agg [.int .i64 2, .int .i64 n, .str []]] bx = some (.ret (.int .i64 0), bx)) (l1 : ∀ bx, callOp CC (callL CC) 21 [.agg [.str nm, .int .i64 2, .int .i64 mn, .int .i64 mx, .sl xs, .bool wr, .bool sf], .agg [.int .i64 2, .int .i64 n, .str []]] bx = some (.ret (.agg [.int .i64 2, .int .i64 c, .str []]), bx)) (f2 : ∀ bx, callOp CC (callL CC) 17 [.agg [.str nm, .int .i64 2, .int .i64 mn, .int .i64 mx, .sl xs, .bool wr, .bool sf], .agg [.int .i64 2, .int .i64 c, .str []]] bx = some (.ret (.int .i64 0), bx)) (f3 : ∀ bx, callOp CC (callL CC) 17 [.agg [.str nm, .int .i64 2, .int .i64 mn, .int .i64 mx, .sl xs, .bool wr, .bool sf], .agg [.int .i64 2, .int .i64 n, .str []]] bx = some (.ret (.int .i64 q), bx)) (f4 : ∀ bx, callOp CC (callL CC) 17 [.agg [.str nm, .int .i64 2, .int .i64 mn, .int .i64 mx, .sl xs, .bool wr, .bool sf], .agg [.int .i64 2, .int .i64 o, .str []]] bx = some (.ret (.int .i64 p), bx)) (hn : -1099511627776 ≤ n ∧ n ≤ 1099511627776) (hc : -1099511627776 ≤ c ∧ c ≤ 1099511627776) (hfi : q = 0 → c = n) (q0 : q = 0) (e : p ≠ 0 ∨ o < -1099511627776 ∨ o > 1099511627776) : ∃ bx, callL CC 10 [.agg [.str nm, .int .i64 2, .int .i64 mn, .int .i64 mx, .sl xs, .bool wr, .bool sf], .agg [.int .i64 2, .int .i64 n, .str []], .int .i64 o] [] = some (.ret (.bool true), bx) := by
  rw [callL_enter (fn := Tryd.f10) (c := Tryd.f10.body.getD .skip) rfl rfl fat_L20_ValueNear rfl ok_L20_ValueNear (Nat.le_of_ble_eq_true rfl)]
  obtain ⟨tu, htu⟩ := VLs
  obtain ⟨ta, hta⟩ := ATs
  have bv := buildVl2 2 o
  have q0' : (q == 0) = true := by simp [q0]
  have en' : (c == n) = true := by rw [hfi q0]; simp
  by_cases p0 : p = 0
  · have p0' : (p != 0) = false := by simp [p0]
    by_cases o1 : o < -1099511627776
    · skip
      obtain ⟨ev, eo, so, co, ⟨hev, hco⟩, R⟩ := RULES CC; rw [← hev]
      rw [← hco] at haw hf d1 z1 f1 c1 l1 f2 f3 f4
      simp only [fpart, part', Tryd.f10, Option.getD]
      simp (maxSteps := 5000000) only [SA, SB, SD, R, guardAt, binP, intP, indexAddrP, elemsOf, readCells, lenP, lenAt, resultsP, resultP, oneOr, reduceCtorEq, reduceIte, Nat.reduceEqDiff, Nat.reduceAdd, Nat.zero_add, Nat.reduceMul, Nat.reduceLT, Nat.reduceLeDiff, Int.reduceLT, Int.reduceNeg, Int.reduceLE, appendP, appendAt, letGo, setLoc, locVal, Int.reduceToNat, boxCells, und, TG, SE, SC, unP, htu, hta, VLf, eqgV, eqVP, loadR, loadP, storeR, storeK, storeCellsP, laid, lay, setBox, List.set_cons_zero, List.set_cons_succ, Nat.le_refl, List.take_succ_cons, List.take_zero, List.drop_nil, List.filter_nil, List.cons_append, Int.reduceBEq, Int.reduceBNe, Int.reduceGT, Int.reduceGE, Bool.not_true, Bool.not_false, haw, hf, hpu, d1, z1, f1, c1, l1, f2, f3, f4, bv, q0', en', Bool.and_self, beq_self_eq_true, p0', o1]
      exact ⟨_, rfl⟩
    · have o2 : o > 1099511627776 := by omega
      obtain ⟨ev, eo, so, co, ⟨hev, hco⟩, R⟩ := RULES CC; rw [← hev]
      rw [← hco] at haw hf d1 z1 f1 c1 l1 f2 f3 f4
      simp only [fpart, part', Tryd.f10, Option.getD]
      simp (maxSteps := 5000000) only [SA, SB, SD, R, guardAt, binP, intP, indexAddrP, elemsOf, readCells, lenP, lenAt, resultsP, resultP, oneOr, reduceCtorEq, reduceIte, Nat.reduceEqDiff, Nat.reduceAdd, Nat.zero_add, Nat.reduceMul, Nat.reduceLT, Nat.reduceLeDiff, Int.reduceLT, Int.reduceNeg, Int.reduceLE, appendP, appendAt, letGo, setLoc, locVal, Int.reduceToNat, boxCells, und, TG, SE, SC, unP, htu, hta, VLf, eqgV, eqVP, loadR, loadP, storeR, storeK, storeCellsP, laid, lay, setBox, List.set_cons_zero, List.set_cons_succ, Nat.le_refl, List.take_succ_cons, List.take_zero, List.drop_nil, List.filter_nil, List.cons_append, Int.reduceBEq, Int.reduceBNe, Int.reduceGT, Int.reduceGE, Bool.not_true, Bool.not_false, haw, hf, hpu, d1, z1, f1, c1, l1, f2, f3, f4, bv, q0', en', Bool.and_self, beq_self_eq_true, p0', o1, o2]
      exact ⟨_, rfl⟩
  · have p0' : (p != 0) = true := by simpa using p0
    obtain ⟨ev, eo, so, co, ⟨hev, hco⟩, R⟩ := RULES CC; rw [← hev]
    rw [← hco] at haw hf d1 z1 f1 c1 l1 f2 f3 f4
    simp only [fpart, part', Tryd.f10, Option.getD]
    simp (maxSteps := 5000000) only [SA, SB, SD, R, guardAt, binP, intP, indexAddrP, elemsOf, readCells, lenP, lenAt, resultsP, resultP, oneOr, reduceCtorEq, reduceIte, Nat.reduceEqDiff, Nat.reduceAdd, Nat.zero_add, Nat.reduceMul, Nat.reduceLT, Nat.reduceLeDiff, Int.reduceLT, Int.reduceNeg, Int.reduceLE, appendP, appendAt, letGo, setLoc, locVal, Int.reduceToNat, boxCells, und, TG, SE, SC, unP, htu, hta, VLf, eqgV, eqVP, loadR, loadP, storeR, storeK, storeCellsP, laid, lay, setBox, List.set_cons_zero, List.set_cons_succ, Nat.le_refl, List.take_succ_cons, List.take_zero, List.drop_nil, List.filter_nil, List.cons_append, Int.reduceBEq, Int.reduceBNe, Int.reduceGT, Int.reduceGE, Bool.not_true, Bool.not_false, haw, hf, hpu, d1, z1, f1, c1, l1, f2, f3, f4, bv, q0', en', Bool.and_self, beq_self_eq_true, p0']
    exact ⟨_, rfl⟩
theorem near_late_qa (xs : List PV) (nm : List UInt8) (mn mx : Int) (wr sf : Bool) (n o c q p zk zn : Int) (zs : List UInt8) (haw : ∀ bx, callOp CC (callL CC) 12 [] bx = some (.ret (.bool true), bx)) (hpu : pureL xs = true) (hf : ∀ bx, callOp CC (callL CC) 11 [.agg [.str nm, .int .i64 2, .int .i64 mn, .int .i64 mx, .sl xs, .bool wr, .bool sf], .agg [.int .i64 2, .int .i64 n, .str []]] bx = some (.ret (.bool true), bx)) (d1 : ∀ bx, callOp CC (callL CC) 15 [.agg [.str nm, .int .i64 2, .int .i64 mn, .int .i64 mx, .sl xs, .bool wr, .bool sf]] bx = some (.ret (.int .i64 0), bx)) (z1 : ∀ bx, callOp CC (callL CC) 19 [.agg [.str nm, .int .i64 2, .int .i64 mn, .int .i64 mx, .sl xs, .bool wr, .bool sf]] bx = some (.ret (.agg [.int .i64 zk, .int .i64 zn, .str zs]), bx)) (f1 : ∀ bx, callOp CC (callL CC) 17 [.agg [.str nm, .int .i64 2, .int .i64 mn, .int .i64 mx, .sl xs, .bool wr, .bool sf], .agg [.int .i64 zk, .int .i64 zn, .str zs]] bx = some (.ret (.int .i64 0), bx)) (c1 : ∀ bx, callOp CC (callL CC) 13 [.agg [.int .i64 2, .int .i64 n, .str []]] bx = some (.ret (.int .i64 0), bx)) (l1 : ∀ bx, callOp CC (callL CC) 21 [.agg [.str nm, .int .i64 2, .int .i64 mn, .int .i64 mx, .sl xs, .bool wr, .bool sf], .agg [.int .i64 2, .int .i64 n, .str []]] bx = some (.ret (.agg [.int .i64 2, .int .i64 c, .str []]), bx)) (f2 : ∀ bx, callOp CC (callL CC) 17 [.agg [.str nm, .int .i64 2, .int .i64 mn, .int .i64 mx, .sl xs, .bool wr, .bool sf], .agg [.int .i64 2, .int .i64 c, .str []]] bx = some (.ret (.int .i64 0), bx)) (f3 : ∀ bx, callOp CC (callL CC) 17 [.agg [.str nm, .int .i64 2, .int .i64 mn, .int .i64 mx, .sl xs, .bool wr, .bool sf], .agg [.int .i64 2, .int .i64 n, .str []]] bx = some (.ret (.int .i64 q), bx)) (f4 : ∀ bx, callOp CC (callL CC) 17 [.agg [.str nm, .int .i64 2, .int .i64 mn, .int .i64 mx, .sl xs, .bool wr, .bool sf], .agg [.int .i64 2, .int .i64 o, .str []]] bx = some (.ret (.int .i64 p), bx)) (hn : -1099511627776 ≤ n ∧ n ≤ 1099511627776) (hc : -1099511627776 ≤ c ∧ c ≤ 1099511627776) (hfi : q = 0 → c = n) (q0 : q = 0) (p0 : p = 0) (o1 : ¬ o < -1099511627776) (o2 : ¬ o > 1099511627776) (g1 : n - c < 0) (hfo : (if n - c < 0 then 0 - (n - c) else n - c) ≤ (if n - o < 0 then 0 - (n - o) else n - o)) : ∃ bx, callL CC 10 [.agg [.str nm, .int .i64 2, .int .i64 mn, .int .i64 mx, .sl xs, .bool wr, .bool sf], .agg [.int .i64 2, .int .i64 n, .str []], .int .i64 o] [] = some (.ret (.bool true), bx) := by
  rw [callL_enter (fn := Tryd.f10) (c := Tryd.f10.body.getD .skip) rfl rfl fat_L20_ValueNear rfl ok_L20_ValueNear (Nat.le_of_ble_eq_true rfl)]
  obtain ⟨tu, htu⟩ := VLs
  obtain ⟨ta, hta⟩ := ATs
  have bv := buildVl2 2 o
  have q0' : (q == 0) = true := by simp [q0]
  have en' : (c == n) = true := by rw [hfi q0]; simp
  have p0' : (p != 0) = false := by simp [p0]
  have w1 := wrap_i64 (n := n - c) ⟨by omega, by omega⟩
  have w1' := wrap_i64 (n := 0 - (n - c)) ⟨by omega, by omega⟩
  have w2 := wrap_i64 (n := n - o) ⟨by omega, by omega⟩
  have w2' := wrap_i64 (n := 0 - (n - o)) ⟨by omega, by omega⟩
  rw [if_pos g1] at hfo
  by_cases g2 : n - o < 0
  · rw [if_pos g2] at hfo
    obtain ⟨ev, eo, so, co, ⟨hev, hco⟩, R⟩ := RULES CC; rw [← hev]
    rw [← hco] at haw hf d1 z1 f1 c1 l1 f2 f3 f4
    simp only [fpart, part', Tryd.f10, Option.getD]
    simp (maxSteps := 5000000) only [SA, SB, SD, R, guardAt, binP, intP, indexAddrP, elemsOf, readCells, lenP, lenAt, resultsP, resultP, oneOr, reduceCtorEq, reduceIte, Nat.reduceEqDiff, Nat.reduceAdd, Nat.zero_add, Nat.reduceMul, Nat.reduceLT, Nat.reduceLeDiff, Int.reduceLT, Int.reduceNeg, Int.reduceLE, appendP, appendAt, letGo, setLoc, locVal, Int.reduceToNat, boxCells, und, TG, SE, SC, unP, htu, hta, VLf, eqgV, eqVP, loadR, loadP, storeR, storeK, storeCellsP, laid, lay, setBox, List.set_cons_zero, List.set_cons_succ, Nat.le_refl, List.take_succ_cons, List.take_zero, List.drop_nil, List.filter_nil, List.cons_append, Int.reduceBEq, Int.reduceBNe, Int.reduceGT, Int.reduceGE, Bool.not_true, Bool.not_false, haw, hf, hpu, d1, z1, f1, c1, l1, f2, f3, f4, bv, q0', en', Bool.and_self, beq_self_eq_true, p0', o1, o2, w1, w1', w2, w2', g1, g2, hfo]
    exact ⟨_, rfl⟩
  · rw [if_neg g2] at hfo
    obtain ⟨ev, eo, so, co, ⟨hev, hco⟩, R⟩ := RULES CC; rw [← hev]
    rw [← hco] at haw hf d1 z1 f1 c1 l1 f2 f3 f4
    simp only [fpart, part', Tryd.f10, Option.getD]
    simp (maxSteps := 5000000) only [SA, SB, SD, R, guardAt, binP, intP, indexAddrP, elemsOf, readCells, lenP, lenAt, resultsP, resultP, oneOr, reduceCtorEq, reduceIte, Nat.reduceEqDiff, Nat.reduceAdd, Nat.zero_add, Nat.reduceMul, Nat.reduceLT, Nat.reduceLeDiff, Int.reduceLT, Int.reduceNeg, Int.reduceLE, appendP, appendAt, letGo, setLoc, locVal, Int.reduceToNat, boxCells, und, TG, SE, SC, unP, htu, hta, VLf, eqgV, eqVP, loadR, loadP, storeR, storeK, storeCellsP, laid, lay, setBox, List.set_cons_zero, List.set_cons_succ, Nat.le_refl, List.take_succ_cons, List.take_zero, List.drop_nil, List.filter_nil, List.cons_append, Int.reduceBEq, Int.reduceBNe, Int.reduceGT, Int.reduceGE, Bool.not_true, Bool.not_false, haw, hf, hpu, d1, z1, f1, c1, l1, f2, f3, f4, bv, q0', en', Bool.and_self, beq_self_eq_true, p0', o1, o2, w1, w1', w2, w2', g1, g2, hfo]
    exact ⟨_, rfl⟩
theorem near_late_qb (xs : List PV) (nm : List UInt8) (mn mx : Int) (wr sf : Bool) (n o c q p zk zn : Int) (zs : List UInt8) (haw : ∀ bx, callOp CC (callL CC) 12 [] bx = some (.ret (.bool true), bx)) (hpu : pureL xs = true) (hf : ∀ bx, callOp CC (callL CC) 11 [.agg [.str nm, .int .i64 2, .int .i64 mn, .int .i64 mx, .sl xs, .bool wr, .bool sf], .agg [.int .i64 2, .int .i64 n, .str []]] bx = some (.ret (.bool true), bx)) (d1 : ∀ bx, callOp CC (callL CC) 15 [.agg [.str nm, .int .i64 2, .int .i64 mn, .int .i64 mx, .sl xs, .bool wr, .bool sf]] bx = some (.ret (.int .i64 0), bx)) (z1 : ∀ bx, callOp CC (callL CC) 19 [.agg [.str nm, .int .i64 2, .int .i64 mn, .int .i64 mx, .sl xs, .bool wr, .bool sf]] bx = some (.ret (.agg [.int .i64 zk, .int .i64 zn, .str zs]), bx)) (f1 : ∀ bx, callOp CC (callL CC) 17 [.agg [.str nm, .int .i64 2, .int .i64 mn, .int .i64 mx, .sl xs, .bool wr, .bool sf], .agg [.int .i64 zk, .int .i64 zn, .str zs]] bx = some (.ret (.int .i64 0), bx)) (c1 : ∀ bx, callOp CC (callL CC) 13 [.agg [.int .i64 2, .int .i64 n, .str []]] bx = some (.ret (.int .i64 0), bx)) (l1 : ∀ bx, callOp CC (callL CC) 21 [.agg [.str nm, .int .i64 2, .int .i64 mn, .int .i64 mx, .sl xs, .bool wr, .bool sf], .agg [.int .i64 2, .int .i64 n, .str []]] bx = some (.ret (.agg [.int .i64 2, .int .i64 c, .str []]), bx)) (f2 : ∀ bx, callOp CC (callL CC) 17 [.agg [.str nm, .int .i64 2, .int .i64 mn, .int .i64 mx, .sl xs, .bool wr, .bool sf], .agg [.int .i64 2, .int .i64 c, .str []]] bx = some (.ret (.int .i64 0), bx)) (f3 : ∀ bx, callOp CC (callL CC) 17 [.agg [.str nm, .int .i64 2, .int .i64 mn, .int .i64 mx, .sl xs, .bool wr, .bool sf], .agg [.int .i64 2, .int .i64 n, .str []]] bx = some (.ret (.int .i64 q), bx)) (f4 : ∀ bx, callOp CC (callL CC) 17 [.agg [.str nm, .int .i64 2, .int .i64 mn, .int .i64 mx, .sl xs, .bool wr, .bool sf], .agg [.int .i64 2, .int .i64 o, .str []]] bx = some (.ret (.int .i64 p), bx)) (hn : -1099511627776 ≤ n ∧ n ≤ 1099511627776) (hc : -1099511627776 ≤ c ∧ c ≤ 1099511627776) (hfi : q = 0 → c = n) (q0 : q = 0) (p0 : p = 0) (o1 : ¬ o < -1099511627776) (o2 : ¬ o > 1099511627776) (g1 : ¬ n - c < 0) (hfo : (if n - c < 0 then 0 - (n - c) else n - c) ≤ (if n - o < 0 then 0 - (n - o) else n - o)) : ∃ bx, callL CC 10 [.agg [.str nm, .int .i64 2, .int .i64 mn, .int .i64 mx, .sl xs, .bool wr, .bool sf], .agg [.int .i64 2, .int .i64 n, .str []], .int .i64 o] [] = some (.ret (.bool true), bx) := by
  rw [callL_enter (fn := Tryd.f10) (c := Tryd.f10.body.getD .skip) rfl rfl fat_L20_ValueNear rfl ok_L20_ValueNear (Nat.le_of_ble_eq_true rfl)]
  obtain ⟨tu, htu⟩ := VLs
  obtain ⟨ta, hta⟩ := ATs
  have bv := buildVl2 2 o
  have q0' : (q == 0) = true := by simp [q0]
  have en' : (c == n) = true := by rw [hfi q0]; simp
  have p0' : (p != 0) = false := by simp [p0]
  have w1 := wrap_i64 (n := n - c) ⟨by omega, by omega⟩
  have w1' := wrap_i64 (n := 0 - (n - c)) ⟨by omega, by omega⟩
  have w2 := wrap_i64 (n := n - o) ⟨by omega, by omega⟩
  have w2' := wrap_i64 (n := 0 - (n - o)) ⟨by omega, by omega⟩
  rw [if_neg g1] at hfo
  by_cases g2 : n - o < 0
  · rw [if_pos g2] at hfo
    obtain ⟨ev, eo, so, co, ⟨hev, hco⟩, R⟩ := RULES CC; rw [← hev]
    rw [← hco] at haw hf d1 z1 f1 c1 l1 f2 f3 f4
    simp only [fpart, part', Tryd.f10, Option.getD]
    simp (maxSteps := 5000000) only [SA, SB, SD, R, guardAt, binP, intP, indexAddrP, elemsOf, readCells, lenP, lenAt, resultsP, resultP, oneOr, reduceCtorEq, reduceIte, Nat.reduceEqDiff, Nat.reduceAdd, Nat.zero_add, Nat.reduceMul, Nat.reduceLT, Nat.reduceLeDiff, Int.reduceLT, Int.reduceNeg, Int.reduceLE, appendP, appendAt, letGo, setLoc, locVal, Int.reduceToNat, boxCells, und, TG, SE, SC, unP, htu, hta, VLf, eqgV, eqVP, loadR, loadP, storeR, storeK, storeCellsP, laid, lay, setBox, List.set_cons_zero, List.set_cons_succ, Nat.le_refl, List.take_succ_cons, List.take_zero, List.drop_nil, List.filter_nil, List.cons_append, Int.reduceBEq, Int.reduceBNe, Int.reduceGT, Int.reduceGE, Bool.not_true, Bool.not_false, haw, hf, hpu, d1, z1, f1, c1, l1, f2, f3, f4, bv, q0', en', Bool.and_self, beq_self_eq_true, p0', o1, o2, w1, w1', w2, w2', g1, g2, hfo]
    exact ⟨_, rfl⟩
  · rw [if_neg g2] at hfo
    obtain ⟨ev, eo, so, co, ⟨hev, hco⟩, R⟩ := RULES CC; rw [← hev]
    rw [← hco] at haw hf d1 z1 f1 c1 l1 f2 f3 f4
    simp only [fpart, part', Tryd.f10, Option.getD]
    simp (maxSteps := 5000000) only [SA, SB, SD, R, guardAt, binP, intP, indexAddrP, elemsOf, readCells, lenP, lenAt, resultsP, resultP, oneOr, reduceCtorEq, reduceIte, Nat.reduceEqDiff, Nat.reduceAdd, Nat.zero_add, Nat.reduceMul, Nat.reduceLT, Nat.reduceLeDiff, Int.reduceLT, Int.reduceNeg, Int.reduceLE, appendP, appendAt, letGo, setLoc, locVal, Int.reduceToNat, boxCells, und, TG, SE, SC, unP, htu, hta, VLf, eqgV, eqVP, loadR, loadP, storeR, storeK, storeCellsP, laid, lay, setBox, List.set_cons_zero, List.set_cons_succ, Nat.le_refl, List.take_succ_cons, List.take_zero, List.drop_nil, List.filter_nil, List.cons_append, Int.reduceBEq, Int.reduceBNe, Int.reduceGT, Int.reduceGE, Bool.not_true, Bool.not_false, haw, hf, hpu, d1, z1, f1, c1, l1, f2, f3, f4, bv, q0', en', Bool.and_self, beq_self_eq_true, p0', o1, o2, w1, w1', w2, w2', g1, g2, hfo]
    exact ⟨_, rfl⟩
theorem near_early_n (xs : List PV) (nm : List UInt8) (mn mx : Int) (wr sf : Bool) (n o c q p zk zn : Int) (zs : List UInt8) (haw : ∀ bx, callOp CC (callL CC) 12 [] bx = some (.ret (.bool true), bx)) (hpu : pureL xs = true) (hf : ∀ bx, callOp CC (callL CC) 11 [.agg [.str nm, .int .i64 2, .int .i64 mn, .int .i64 mx, .sl xs, .bool wr, .bool sf], .agg [.int .i64 2, .int .i64 n, .str []]] bx = some (.ret (.bool true), bx)) (d1 : ∀ bx, callOp CC (callL CC) 15 [.agg [.str nm, .int .i64 2, .int .i64 mn, .int .i64 mx, .sl xs, .bool wr, .bool sf]] bx = some (.ret (.int .i64 0), bx)) (z1 : ∀ bx, callOp CC (callL CC) 19 [.agg [.str nm, .int .i64 2, .int .i64 mn, .int .i64 mx, .sl xs, .bool wr, .bool sf]] bx = some (.ret (.agg [.int .i64 zk, .int .i64 zn, .str zs]), bx)) (f1 : ∀ bx, callOp CC (callL CC) 17 [.agg [.str nm, .int .i64 2, .int .i64 mn, .int .i64 mx, .sl xs, .bool wr, .bool sf], .agg [.int .i64 zk, .int .i64 zn, .str zs]] bx = some (.ret (.int .i64 0), bx)) (c1 : ∀ bx, callOp CC (callL CC) 13 [.agg [.int .i64 2, .int .i64 n, .str []]] bx = some (.ret (.int .i64 0), bx)) (l1 : ∀ bx, callOp CC (callL CC) 21 [.agg [.str nm, .int .i64 2, .int .i64 mn, .int .i64 mx, .sl xs, .bool wr, .bool sf], .agg [.int .i64 2, .int .i64 n, .str []]] bx = some (.ret (.agg [.int .i64 2, .int .i64 c, .str []]), bx)) (f2 : ∀ bx, callOp CC (callL CC) 17 [.agg [.str nm, .int .i64 2, .int .i64 mn, .int .i64 mx, .sl xs, .bool wr, .bool sf], .agg [.int .i64 2, .int .i64 c, .str []]] bx = some (.ret (.int .i64 0), bx)) (f3 : ∀ bx, callOp CC (callL CC) 17 [.agg [.str nm, .int .i64 2, .int .i64 mn, .int .i64 mx, .sl xs, .bool wr, .bool sf], .agg [.int .i64 2, .int .i64 n, .str []]] bx = some (.ret (.int .i64 q), bx)) (f4 : ∀ bx, callOp CC (callL CC) 17 [.agg [.str nm, .int .i64 2, .int .i64 mn, .int .i64 mx, .sl xs, .bool wr, .bool sf], .agg [.int .i64 2, .int .i64 o, .str []]] bx = some (.ret (.int .i64 p), bx)) (hn : -1099511627776 ≤ n ∧ n ≤ 1099511627776) (hc : -1099511627776 ≤ c ∧ c ≤ 1099511627776) (hfi : q = 0 → c = n) (q0 : q ≠ 0) (e : p ≠ 0 ∨ o < -1099511627776 ∨ o > 1099511627776) : ∃ bx, callL CC 10 [.agg [.str nm, .int .i64 2, .int .i64 mn, .int .i64 mx, .sl xs, .bool wr, .bool sf], .agg [.int .i64 2, .int .i64 n, .str []], .int .i64 o] [] = some (.ret (.bool true), bx) := by
  rw [callL_enter (fn := Tryd.f10) (c := Tryd.f10.body.getD .skip) rfl rfl fat_L20_ValueNear rfl ok_L20_ValueNear (Nat.le_of_ble_eq_true rfl)]
  obtain ⟨tu, htu⟩ := VLs
  obtain ⟨ta, hta⟩ := ATs
  have bv := buildVl2 2 o
  have q0' : (q == 0) = false := by simpa using q0
  by_cases p0 : p = 0
  · have p0' : (p != 0) = false := by simp [p0]
    by_cases o1 : o < -1099511627776
    · skip
      obtain ⟨ev, eo, so, co, ⟨hev, hco⟩, R⟩ := RULES CC; rw [← hev]
      rw [← hco] at haw hf d1 z1 f1 c1 l1 f2 f3 f4
      simp only [fpart, part', Tryd.f10, Option.getD]
      simp (maxSteps := 5000000) only [SA, SB, SD, R, guardAt, binP, intP, indexAddrP, elemsOf, readCells, lenP, lenAt, resultsP, resultP, oneOr, reduceCtorEq, reduceIte, Nat.reduceEqDiff, Nat.reduceAdd, Nat.zero_add, Nat.reduceMul, Nat.reduceLT, Nat.reduceLeDiff, Int.reduceLT, Int.reduceNeg, Int.reduceLE, appendP, appendAt, letGo, setLoc, locVal, Int.reduceToNat, boxCells, und, TG, SE, SC, unP, htu, hta, VLf, eqgV, eqVP, loadR, loadP, storeR, storeK, storeCellsP, laid, lay, setBox, List.set_cons_zero, List.set_cons_succ, Nat.le_refl, List.take_succ_cons, List.take_zero, List.drop_nil, List.filter_nil, List.cons_append, Int.reduceBEq, Int.reduceBNe, Int.reduceGT, Int.reduceGE, Bool.not_true, Bool.not_false, haw, hf, hpu, d1, z1, f1, c1, l1, f2, f3, f4, bv, q0', p0', o1]
      exact ⟨_, rfl⟩
    · have o2 : o > 1099511627776 := by omega
      obtain ⟨ev, eo, so, co, ⟨hev, hco⟩, R⟩ := RULES CC; rw [← hev]
      rw [← hco] at haw hf d1 z1 f1 c1 l1 f2 f3 f4
      simp only [fpart, part', Tryd.f10, Option.getD]
      simp (maxSteps := 5000000) only [SA, SB, SD, R, guardAt, binP, intP, indexAddrP, elemsOf, readCells, lenP, lenAt, resultsP, resultP, oneOr, reduceCtorEq, reduceIte, Nat.reduceEqDiff, Nat.reduceAdd, Nat.zero_add, Nat.reduceMul, Nat.reduceLT, Nat.reduceLeDiff, Int.reduceLT, Int.reduceNeg, Int.reduceLE, appendP, appendAt, letGo, setLoc, locVal, Int.reduceToNat, boxCells, und, TG, SE, SC, unP, htu, hta, VLf, eqgV, eqVP, loadR, loadP, storeR, storeK, storeCellsP, laid, lay, setBox, List.set_cons_zero, List.set_cons_succ, Nat.le_refl, List.take_succ_cons, List.take_zero, List.drop_nil, List.filter_nil, List.cons_append, Int.reduceBEq, Int.reduceBNe, Int.reduceGT, Int.reduceGE, Bool.not_true, Bool.not_false, haw, hf, hpu, d1, z1, f1, c1, l1, f2, f3, f4, bv, q0', p0', o1, o2]
      exact ⟨_, rfl⟩
  · have p0' : (p != 0) = true := by simpa using p0
    obtain ⟨ev, eo, so, co, ⟨hev, hco⟩, R⟩ := RULES CC; rw [← hev]
    rw [← hco] at haw hf d1 z1 f1 c1 l1 f2 f3 f4
    simp only [fpart, part', Tryd.f10, Option.getD]
    simp (maxSteps := 5000000) only [SA, SB, SD, R, guardAt, binP, intP, indexAddrP, elemsOf, readCells, lenP, lenAt, resultsP, resultP, oneOr, reduceCtorEq, reduceIte, Nat.reduceEqDiff, Nat.reduceAdd, Nat.zero_add, Nat.reduceMul, Nat.reduceLT, Nat.reduceLeDiff, Int.reduceLT, Int.reduceNeg, Int.reduceLE, appendP, appendAt, letGo, setLoc, locVal, Int.reduceToNat, boxCells, und, TG, SE, SC, unP, htu, hta, VLf, eqgV, eqVP, loadR, loadP, storeR, storeK, storeCellsP, laid, lay, setBox, List.set_cons_zero, List.set_cons_succ, Nat.le_refl, List.take_succ_cons, List.take_zero, List.drop_nil, List.filter_nil, List.cons_append, Int.reduceBEq, Int.reduceBNe, Int.reduceGT, Int.reduceGE, Bool.not_true, Bool.not_false, haw, hf, hpu, d1, z1, f1, c1, l1, f2, f3, f4, bv, q0', p0']
    exact ⟨_, rfl⟩
theorem near_late_na (xs : List PV) (nm : List UInt8) (mn mx : Int) (wr sf : Bool) (n o c q p zk zn : Int) (zs : List UInt8) (haw : ∀ bx, callOp CC (callL CC) 12 [] bx = some (.ret (.bool true), bx)) (hpu : pureL xs = true) (hf : ∀ bx, callOp CC (callL CC) 11 [.agg [.str nm, .int .i64 2, .int .i64 mn, .int .i64 mx, .sl xs, .bool wr, .bool sf], .agg [.int .i64 2, .int .i64 n, .str []]] bx = some (.ret (.bool true), bx)) (d1 : ∀ bx, callOp CC (callL CC) 15 [.agg [.str nm, .int .i64 2, .int .i64 mn, .int .i64 mx, .sl xs, .bool wr, .bool sf]] bx = some (.ret (.int .i64 0), bx)) (z1 : ∀ bx, callOp CC (callL CC) 19 [.agg [.str nm, .int .i64 2, .int .i64 mn, .int .i64 mx, .sl xs, .bool wr, .bool sf]] bx = some (.ret (.agg [.int .i64 zk, .int .i64 zn, .str zs]), bx)) (f1 : ∀ bx, callOp CC (callL CC) 17 [.agg [.str nm, .int .i64 2, .int .i64 mn, .int .i64 mx, .sl xs, .bool wr, .bool sf], .agg [.int .i64 zk, .int .i64 zn, .str zs]] bx = some (.ret (.int .i64 0), bx)) (c1 : ∀ bx, callOp CC (callL CC) 13 [.agg [.int .i64 2, .int .i64 n, .str []]] bx = some (.ret (.int .i64 0), bx)) (l1 : ∀ bx, callOp CC (callL CC) 21 [.agg [.str nm, .int .i64 2, .int .i64 mn, .int .i64 mx, .sl xs, .bool wr, .bool sf], .agg [.int .i64 2, .int .i64 n, .str []]] bx = some (.ret (.agg [.int .i64 2, .int .i64 c, .str []]), bx)) (f2 : ∀ bx, callOp CC (callL CC) 17 [.agg [.str nm, .int .i64 2, .int .i64 mn, .int .i64 mx, .sl xs, .bool wr, .bool sf], .agg [.int .i64 2, .int .i64 c, .str []]] bx = some (.ret (.int .i64 0), bx)) (f3 : ∀ bx, callOp CC (callL CC) 17 [.agg [.str nm, .int .i64 2, .int .i64 mn, .int .i64 mx, .sl xs, .bool wr, .bool sf], .agg [.int .i64 2, .int .i64 n, .str []]] bx = some (.ret (.int .i64 q), bx)) (f4 : ∀ bx, callOp CC (callL CC) 17 [.agg [.str nm, .int .i64 2, .int .i64 mn, .int .i64 mx, .sl xs, .bool wr, .bool sf], .agg [.int .i64 2, .int .i64 o, .str []]] bx = some (.ret (.int .i64 p), bx)) (hn : -1099511627776 ≤ n ∧ n ≤ 1099511627776) (hc : -1099511627776 ≤ c ∧ c ≤ 1099511627776) (hfi : q = 0 → c = n) (q0 : q ≠ 0) (p0 : p = 0) (o1 : ¬ o < -1099511627776) (o2 : ¬ o > 1099511627776) (g1 : n - c < 0) (hfo : (if n - c < 0 then 0 - (n - c) else n - c) ≤ (if n - o < 0 then 0 - (n - o) else n - o)) : ∃ bx, callL CC 10 [.agg [.str nm, .int .i64 2, .int .i64 mn, .int .i64 mx, .sl xs, .bool wr, .bool sf], .agg [.int .i64 2, .int .i64 n, .str []], .int .i64 o] [] = some (.ret (.bool true), bx) := by
  rw [callL_enter (fn := Tryd.f10) (c := Tryd.f10.body.getD .skip) rfl rfl fat_L20_ValueNear rfl ok_L20_ValueNear (Nat.le_of_ble_eq_true rfl)]
  obtain ⟨tu, htu⟩ := VLs
  obtain ⟨ta, hta⟩ := ATs
  have bv := buildVl2 2 o
  have q0' : (q == 0) = false := by simpa using q0
  have p0' : (p != 0) = false := by simp [p0]
  have w1 := wrap_i64 (n := n - c) ⟨by omega, by omega⟩
  have w1' := wrap_i64 (n := 0 - (n - c)) ⟨by omega, by omega⟩
  have w2 := wrap_i64 (n := n - o) ⟨by omega, by omega⟩
  have w2' := wrap_i64 (n := 0 - (n - o)) ⟨by omega, by omega⟩
  rw [if_pos g1] at hfo
  by_cases g2 : n - o < 0
  · rw [if_pos g2] at hfo
    obtain ⟨ev, eo, so, co, ⟨hev, hco⟩, R⟩ := RULES CC; rw [← hev]
    rw [← hco] at haw hf d1 z1 f1 c1 l1 f2 f3 f4
    simp only [fpart, part', Tryd.f10, Option.getD]
    simp (maxSteps := 5000000) only [SA, SB, SD, R, guardAt, binP, intP, indexAddrP, elemsOf, readCells, lenP, lenAt, resultsP, resultP, oneOr, reduceCtorEq, reduceIte, Nat.reduceEqDiff, Nat.reduceAdd, Nat.zero_add, Nat.reduceMul, Nat.reduceLT, Nat.reduceLeDiff, Int.reduceLT, Int.reduceNeg, Int.reduceLE, appendP, appendAt, letGo, setLoc, locVal, Int.reduceToNat, boxCells, und, TG, SE, SC, unP, htu, hta, VLf, eqgV, eqVP, loadR, loadP, storeR, storeK, storeCellsP, laid, lay, setBox, List.set_cons_zero, List.set_cons_succ, Nat.le_refl, List.take_succ_cons, List.take_zero, List.drop_nil, List.filter_nil, List.cons_append, Int.reduceBEq, Int.reduceBNe, Int.reduceGT, Int.reduceGE, Bool.not_true, Bool.not_false, haw, hf, hpu, d1, z1, f1, c1, l1, f2, f3, f4, bv, q0', p0', o1, o2, w1, w1', w2, w2', g1, g2, hfo]
    exact ⟨_, rfl⟩
  · rw [if_neg g2] at hfo
    obtain ⟨ev, eo, so, co, ⟨hev, hco⟩, R⟩ := RULES CC; rw [← hev]
    rw [← hco] at haw hf d1 z1 f1 c1 l1 f2 f3 f4
    simp only [fpart, part', Tryd.f10, Option.getD]
    simp (maxSteps := 5000000) only [SA, SB, SD, R, guardAt, binP, intP, indexAddrP, elemsOf, readCells, lenP, lenAt, resultsP, resultP, oneOr, reduceCtorEq, reduceIte, Nat.reduceEqDiff, Nat.reduceAdd, Nat.zero_add, Nat.reduceMul, Nat.reduceLT, Nat.reduceLeDiff, Int.reduceLT, Int.reduceNeg, Int.reduceLE, appendP, appendAt, letGo, setLoc, locVal, Int.reduceToNat, boxCells, und, TG, SE, SC, unP, htu, hta, VLf, eqgV, eqVP, loadR, loadP, storeR, storeK, storeCellsP, laid, lay, setBox, List.set_cons_zero, List.set_cons_succ, Nat.le_refl, List.take_succ_cons, List.take_zero, List.drop_nil, List.filter_nil, List.cons_append, Int.reduceBEq, Int.reduceBNe, Int.reduceGT, Int.reduceGE, Bool.not_true, Bool.not_false, haw, hf, hpu, d1, z1, f1, c1, l1, f2, f3, f4, bv, q0', p0', o1, o2, w1, w1', w2, w2', g1, g2, hfo]
    exact ⟨_, rfl⟩
theorem near_late_nb (xs : List PV) (nm : List UInt8) (mn mx : Int) (wr sf : Bool) (n o c q p zk zn : Int) (zs : List UInt8) (haw : ∀ bx, callOp CC (callL CC) 12 [] bx = some (.ret (.bool true), bx)) (hpu : pureL xs = true) (hf : ∀ bx, callOp CC (callL CC) 11 [.agg [.str nm, .int .i64 2, .int .i64 mn, .int .i64 mx, .sl xs, .bool wr, .bool sf], .agg [.int .i64 2, .int .i64 n, .str []]] bx = some (.ret (.bool true), bx)) (d1 : ∀ bx, callOp CC (callL CC) 15 [.agg [.str nm, .int .i64 2, .int .i64 mn, .int .i64 mx, .sl xs, .bool wr, .bool sf]] bx = some (.ret (.int .i64 0), bx)) (z1 : ∀ bx, callOp CC (callL CC) 19 [.agg [.str nm, .int .i64 2, .int .i64 mn, .int .i64 mx, .sl xs, .bool wr, .bool sf]] bx = some (.ret (.agg [.int .i64 zk, .int .i64 zn, .str zs]), bx)) (f1 : ∀ bx, callOp CC (callL CC) 17 [.agg [.str nm, .int .i64 2, .int .i64 mn, .int .i64 mx, .sl xs, .bool wr, .bool sf], .agg [.int .i64 zk, .int .i64 zn, .str zs]] bx = some (.ret (.int .i64 0), bx)) (c1 : ∀ bx, callOp CC (callL CC) 13 [.agg [.int .i64 2, .int .i64 n, .str []]] bx = some (.ret (.int .i64 0), bx)) (l1 : ∀ bx, callOp CC (callL CC) 21 [.agg [.str nm, .int .i64 2, .int .i64 mn, .int .i64 mx, .sl xs, .bool wr, .bool sf], .agg [.int .i64 2, .int .i64 n, .str []]] bx = some (.ret (.agg [.int .i64 2, .int .i64 c, .str []]), bx)) (f2 : ∀ bx, callOp CC (callL CC) 17 [.agg [.str nm, .int .i64 2, .int .i64 mn, .int .i64 mx, .sl xs, .bool wr, .bool sf], .agg [.int .i64 2, .int .i64 c, .str []]] bx = some (.ret (.int .i64 0), bx)) (f3 : ∀ bx, callOp CC (callL CC) 17 [.agg [.str nm, .int .i64 2, .int .i64 mn, .int .i64 mx, .sl xs, .bool wr, .bool sf], .agg [.int .i64 2, .int .i64 n, .str []]] bx = some (.ret (.int .i64 q), bx)) (f4 : ∀ bx, callOp CC (callL CC) 17 [.agg [.str nm, .int .i64 2, .int .i64 mn, .int .i64 mx, .sl xs, .bool wr, .bool sf], .agg [.int .i64 2, .int .i64 o, .str []]] bx = some (.ret (.int .i64 p), bx)) (hn : -1099511627776 ≤ n ∧ n ≤ 1099511627776) (hc : -1099511627776 ≤ c ∧ c ≤ 1099511627776) (hfi : q = 0 → c = n) (q0 : q ≠ 0) (p0 : p = 0) (o1 : ¬ o < -1099511627776) (o2 : ¬ o > 1099511627776) (g1 : ¬ n - c < 0) (hfo : (if n - c < 0 then 0 - (n - c) else n - c) ≤ (if n - o < 0 then 0 - (n - o) else n - o)) : ∃ bx, callL CC 10 [.agg [.str nm, .int .i64 2, .int .i64 mn, .int .i64 mx, .sl xs, .bool wr, .bool sf], .agg [.int .i64 2, .int .i64 n, .str []], .int .i64 o] [] = some (.ret (.bool true), bx) := by
  rw [callL_enter (fn := Tryd.f10) (c := Tryd.f10.body.getD .skip) rfl rfl fat_L20_ValueNear rfl ok_L20_ValueNear (Nat.le_of_ble_eq_true rfl)]
  obtain ⟨tu, htu⟩ := VLs
  obtain ⟨ta, hta⟩ := ATs
  have bv := buildVl2 2 o
  have q0' : (q == 0) = false := by simpa using q0
  have p0' : (p != 0) = false := by simp [p0]
  have w1 := wrap_i64 (n := n - c) ⟨by omega, by omega⟩
  have w1' := wrap_i64 (n := 0 - (n - c)) ⟨by omega, by omega⟩
  have w2 := wrap_i64 (n := n - o) ⟨by omega, by omega⟩
  have w2' := wrap_i64 (n := 0 - (n - o)) ⟨by omega, by omega⟩
  rw [if_neg g1] at hfo
  by_cases g2 : n - o < 0
  · rw [if_pos g2] at hfo
    obtain ⟨ev, eo, so, co, ⟨hev, hco⟩, R⟩ := RULES CC; rw [← hev]
    rw [← hco] at haw hf d1 z1 f1 c1 l1 f2 f3 f4
    simp only [fpart, part', Tryd.f10, Option.getD]
    simp (maxSteps := 5000000) only [SA, SB, SD, R, guardAt, binP, intP, indexAddrP, elemsOf, readCells, lenP, lenAt, resultsP, resultP, oneOr, reduceCtorEq, reduceIte, Nat.reduceEqDiff, Nat.reduceAdd, Nat.zero_add, Nat.reduceMul, Nat.reduceLT, Nat.reduceLeDiff, Int.reduceLT, Int.reduceNeg, Int.reduceLE, appendP, appendAt, letGo, setLoc, locVal, Int.reduceToNat, boxCells, und, TG, SE, SC, unP, htu, hta, VLf, eqgV, eqVP, loadR, loadP, storeR, storeK, storeCellsP, laid, lay, setBox, List.set_cons_zero, List.set_cons_succ, Nat.le_refl, List.take_succ_cons, List.take_zero, List.drop_nil, List.filter_nil, List.cons_append, Int.reduceBEq, Int.reduceBNe, Int.reduceGT, Int.reduceGE, Bool.not_true, Bool.not_false, haw, hf, hpu, d1, z1, f1, c1, l1, f2, f3, f4, bv, q0', p0', o1, o2, w1, w1', w2, w2', g1, g2, hfo]
    exact ⟨_, rfl⟩
  · rw [if_neg g2] at hfo
    obtain ⟨ev, eo, so, co, ⟨hev, hco⟩, R⟩ := RULES CC; rw [← hev]
    rw [← hco] at haw hf d1 z1 f1 c1 l1 f2 f3 f4
    simp only [fpart, part', Tryd.f10, Option.getD]
    simp (maxSteps := 5000000) only [SA, SB, SD, R, guardAt, binP, intP, indexAddrP, elemsOf, readCells, lenP, lenAt, resultsP, resultP, oneOr, reduceCtorEq, reduceIte, Nat.reduceEqDiff, Nat.reduceAdd, Nat.zero_add, Nat.reduceMul, Nat.reduceLT, Nat.reduceLeDiff, Int.reduceLT, Int.reduceNeg, Int.reduceLE, appendP, appendAt, letGo, setLoc, locVal, Int.reduceToNat, boxCells, und, TG, SE, SC, unP, htu, hta, VLf, eqgV, eqVP, loadR, loadP, storeR, storeK, storeCellsP, laid, lay, setBox, List.set_cons_zero, List.set_cons_succ, Nat.le_refl, List.take_succ_cons, List.take_zero, List.drop_nil, List.filter_nil, List.cons_append, Int.reduceBEq, Int.reduceBNe, Int.reduceGT, Int.reduceGE, Bool.not_true, Bool.not_false, haw, hf, hpu, d1, z1, f1, c1, l1, f2, f3, f4, bv, q0', p0', o1, o2, w1, w1', w2, w2', g1, g2, hfo]
    exact ⟨_, rfl⟩
theorem law_ValueNear (a : At) (_ : okAt a) (v : Vl) (_ : okVl v) (o : Int) (_ : inI o) : ∃ bx, callL CC 10 [attV a, vlV v, .int .i64 o] [] = some (.ret (.bool true), bx) := by
  have haw := op_awake
  have hf := op_few a v
  have hsh := sh_few (a := a) (v := v)
  have hpu := strs_pure a.en
  obtain ⟨tu, htu⟩ := VLs
  obtain ⟨ta, hta⟩ := ATs
  cases hb : fewB a v with
  | false =>
    rw [hb] at hf
    unfold attV vlV at *
    generalize strs a.en = xs at *
    rw [callL_enter (fn := Tryd.f10) (c := Tryd.f10.body.getD .skip) rfl rfl fat_L20_ValueNear rfl ok_L20_ValueNear (Nat.le_of_ble_eq_true rfl)]
    obtain ⟨ev, eo, so, co, ⟨hev, hco⟩, R⟩ := RULES CC; rw [← hev]
    rw [← hco] at haw hf
    simp only [fpart, part', Tryd.f10, Option.getD]
    simp (maxSteps := 5000000) only [SA, SB, SD, R, guardAt, binP, intP, indexAddrP, elemsOf, readCells, lenP, lenAt, resultsP, resultP, oneOr, reduceCtorEq, reduceIte, Nat.reduceEqDiff, Nat.reduceAdd, Nat.zero_add, Nat.reduceMul, Nat.reduceLT, Nat.reduceLeDiff, Int.reduceLT, Int.reduceNeg, Int.reduceLE, appendP, appendAt, letGo, setLoc, locVal, Int.reduceToNat, boxCells, und, TG, SE, SC, unP, htu, hta, VLf, eqgV, eqVP, loadR, loadP, storeR, storeK, storeCellsP, laid, lay, setBox, List.set_cons_zero, List.set_cons_succ, Nat.le_refl, List.take_succ_cons, List.take_zero, List.drop_nil, List.filter_nil, List.cons_append, Int.reduceBEq, Int.reduceBNe, Int.reduceGT, Int.reduceGE, Bool.not_true, Bool.not_false, haw, hf, hpu]
    exact ⟨_, rfl⟩
  | true =>
    rw [hb] at hf
    obtain ⟨hs, _⟩ := hsh hb
    clear hsh
    have d1 := op_value_Def a hs
    by_cases d0 : dfV a = 0
    · have z1 := op_value_Zero a hs
      have f1 := op_value_Fits a hs (zroV a)
      rw [ft_zero d0] at f1
      rw [d0] at d1
      have c1 := op_value_Check v
      by_cases k1 : a.kd = 2
      · have k1' : (a.kd != 2) = false := by simp [k1]
        by_cases k2 : v.1 = 2
        · have k2' : (v.1 != 2) = false := by simp [k2]
          by_cases c0 : ckV v = 0
          · rw [c0] at c1
            obtain ⟨k, n, s⟩ := v
            obtain ⟨i1, i2⟩ := ck_inv c0 k2
            simp only at i1 i2 k2 k2'
            subst i2
            subst k2
            have i1 := inR_t i1
            obtain ⟨b1, b2, b3⟩ := df_bd d0 k1
            have b1 := inR_t b1
            have b2 := inR_t b2
            have hcl := clamp_in n a.mn a.mx b3
            have hli : limV a (2, n, []) = (2, clampI n a.mn a.mx, []) := if_pos ⟨d0, k1, rfl⟩
            have l1 := op_value_Limit a hs (2, n, [])
            rw [hli] at l1
            have f2 := op_value_Fits a hs (2, clampI n a.mn a.mx, [])
            rw [ft_lim d0 k1] at f2
            have f3 := op_value_Fits a hs (2, n, [])
            have hfi : ftV a (2, n, []) = 0 → clampI n a.mn a.mx = n := fun h => clamp_id (ft_in h k1)
            have f4 := op_value_Fits a hs (2, o, [])
            have hfo : ftV a (2, o, []) = 0 → (if n - clampI n a.mn a.mx < 0 then 0 - (n - clampI n a.mn a.mx) else n - clampI n a.mn a.mx) ≤ (if n - o < 0 then 0 - (n - o) else n - o) := fun h => clamp_near (ft_in h k1)
            have hnn := hcl
            generalize clampI n a.mn a.mx = c at *
            generalize ftV a (2, n, []) = q at *
            generalize ftV a (2, o, []) = p at *
            generalize zroV a = zr at *
            obtain ⟨zk, zn, zs⟩ := zr
            have hc : -1099511627776 ≤ c ∧ c ≤ 1099511627776 := by omega
            obtain ⟨nm, kd, mn, mx, en, wr, sf⟩ := a
            simp only at k1
            subst k1
            unfold attV vlV at *
            simp only at *
            generalize strs en = xs at *
            by_cases q0 : q = 0
            · by_cases e : p ≠ 0 ∨ o < -1099511627776 ∨ o > 1099511627776
              · exact near_early_q xs nm mn mx wr sf n o c q p zk zn zs haw hpu hf d1 z1 f1 c1 l1 f2 f3 f4 i1 hc hfi q0 e
              · by_cases g1 : n - c < 0
                · exact near_late_qa xs nm mn mx wr sf n o c q p zk zn zs haw hpu hf d1 z1 f1 c1 l1 f2 f3 f4 i1 hc hfi q0 (by omega) (by omega) (by omega) g1 (hfo (by omega))
                · exact near_late_qb xs nm mn mx wr sf n o c q p zk zn zs haw hpu hf d1 z1 f1 c1 l1 f2 f3 f4 i1 hc hfi q0 (by omega) (by omega) (by omega) g1 (hfo (by omega))
            · by_cases e : p ≠ 0 ∨ o < -1099511627776 ∨ o > 1099511627776
              · exact near_early_n xs nm mn mx wr sf n o c q p zk zn zs haw hpu hf d1 z1 f1 c1 l1 f2 f3 f4 i1 hc hfi q0 e
              · by_cases g1 : n - c < 0
                · exact near_late_na xs nm mn mx wr sf n o c q p zk zn zs haw hpu hf d1 z1 f1 c1 l1 f2 f3 f4 i1 hc hfi q0 (by omega) (by omega) (by omega) g1 (hfo (by omega))
                · exact near_late_nb xs nm mn mx wr sf n o c q p zk zn zs haw hpu hf d1 z1 f1 c1 l1 f2 f3 f4 i1 hc hfi q0 (by omega) (by omega) (by omega) g1 (hfo (by omega))
          · have c0' : (ckV v != 0) = true := by simpa using c0
            generalize ckV v = c at *
            generalize zroV a = zr at *
            obtain ⟨zk, zn, zs⟩ := zr
            unfold attV vlV at *
            simp only at *
            generalize strs a.en = xs at *
            rw [callL_enter (fn := Tryd.f10) (c := Tryd.f10.body.getD .skip) rfl rfl fat_L20_ValueNear rfl ok_L20_ValueNear (Nat.le_of_ble_eq_true rfl)]
            obtain ⟨ev, eo, so, co, ⟨hev, hco⟩, R⟩ := RULES CC; rw [← hev]
            rw [← hco] at haw hf d1 z1 f1 c1
            simp only [fpart, part', Tryd.f10, Option.getD]
            simp (maxSteps := 5000000) only [SA, SB, SD, R, guardAt, binP, intP, indexAddrP, elemsOf, readCells, lenP, lenAt, resultsP, resultP, oneOr, reduceCtorEq, reduceIte, Nat.reduceEqDiff, Nat.reduceAdd, Nat.zero_add, Nat.reduceMul, Nat.reduceLT, Nat.reduceLeDiff, Int.reduceLT, Int.reduceNeg, Int.reduceLE, appendP, appendAt, letGo, setLoc, locVal, Int.reduceToNat, boxCells, und, TG, SE, SC, unP, htu, hta, VLf, eqgV, eqVP, loadR, loadP, storeR, storeK, storeCellsP, laid, lay, setBox, List.set_cons_zero, List.set_cons_succ, Nat.le_refl, List.take_succ_cons, List.take_zero, List.drop_nil, List.filter_nil, List.cons_append, Int.reduceBEq, Int.reduceBNe, Int.reduceGT, Int.reduceGE, Bool.not_true, Bool.not_false, haw, hf, hpu, d1, z1, f1, c1, k1', k2', c0']
            exact ⟨_, rfl⟩
        · have k2' : (v.1 != 2) = true := by simpa using k2
          generalize zroV a = zr at *
          obtain ⟨zk, zn, zs⟩ := zr
          unfold attV vlV at *
          simp only at *
          generalize strs a.en = xs at *
          rw [callL_enter (fn := Tryd.f10) (c := Tryd.f10.body.getD .skip) rfl rfl fat_L20_ValueNear rfl ok_L20_ValueNear (Nat.le_of_ble_eq_true rfl)]
          obtain ⟨ev, eo, so, co, ⟨hev, hco⟩, R⟩ := RULES CC; rw [← hev]
          rw [← hco] at haw hf d1 z1 f1
          simp only [fpart, part', Tryd.f10, Option.getD]
          simp (maxSteps := 5000000) only [SA, SB, SD, R, guardAt, binP, intP, indexAddrP, elemsOf, readCells, lenP, lenAt, resultsP, resultP, oneOr, reduceCtorEq, reduceIte, Nat.reduceEqDiff, Nat.reduceAdd, Nat.zero_add, Nat.reduceMul, Nat.reduceLT, Nat.reduceLeDiff, Int.reduceLT, Int.reduceNeg, Int.reduceLE, appendP, appendAt, letGo, setLoc, locVal, Int.reduceToNat, boxCells, und, TG, SE, SC, unP, htu, hta, VLf, eqgV, eqVP, loadR, loadP, storeR, storeK, storeCellsP, laid, lay, setBox, List.set_cons_zero, List.set_cons_succ, Nat.le_refl, List.take_succ_cons, List.take_zero, List.drop_nil, List.filter_nil, List.cons_append, Int.reduceBEq, Int.reduceBNe, Int.reduceGT, Int.reduceGE, Bool.not_true, Bool.not_false, haw, hf, hpu, d1, z1, f1, k1', k2']
          exact ⟨_, rfl⟩
      · have k1' : (a.kd != 2) = true := by simpa using k1
        generalize zroV a = zr at *
        obtain ⟨zk, zn, zs⟩ := zr
        unfold attV vlV at *
        simp only at *
        generalize strs a.en = xs at *
        rw [callL_enter (fn := Tryd.f10) (c := Tryd.f10.body.getD .skip) rfl rfl fat_L20_ValueNear rfl ok_L20_ValueNear (Nat.le_of_ble_eq_true rfl)]
        obtain ⟨ev, eo, so, co, ⟨hev, hco⟩, R⟩ := RULES CC; rw [← hev]
        rw [← hco] at haw hf d1 z1 f1
        simp only [fpart, part', Tryd.f10, Option.getD]
        simp (maxSteps := 5000000) only [SA, SB, SD, R, guardAt, binP, intP, indexAddrP, elemsOf, readCells, lenP, lenAt, resultsP, resultP, oneOr, reduceCtorEq, reduceIte, Nat.reduceEqDiff, Nat.reduceAdd, Nat.zero_add, Nat.reduceMul, Nat.reduceLT, Nat.reduceLeDiff, Int.reduceLT, Int.reduceNeg, Int.reduceLE, appendP, appendAt, letGo, setLoc, locVal, Int.reduceToNat, boxCells, und, TG, SE, SC, unP, htu, hta, VLf, eqgV, eqVP, loadR, loadP, storeR, storeK, storeCellsP, laid, lay, setBox, List.set_cons_zero, List.set_cons_succ, Nat.le_refl, List.take_succ_cons, List.take_zero, List.drop_nil, List.filter_nil, List.cons_append, Int.reduceBEq, Int.reduceBNe, Int.reduceGT, Int.reduceGE, Bool.not_true, Bool.not_false, haw, hf, hpu, d1, z1, f1, k1']
        exact ⟨_, rfl⟩
    · have d0' : (dfV a != 0) = true := by simpa using d0
      generalize dfV a = d at *
      unfold attV vlV at *
      generalize strs a.en = xs at *
      rw [callL_enter (fn := Tryd.f10) (c := Tryd.f10.body.getD .skip) rfl rfl fat_L20_ValueNear rfl ok_L20_ValueNear (Nat.le_of_ble_eq_true rfl)]
      obtain ⟨ev, eo, so, co, ⟨hev, hco⟩, R⟩ := RULES CC; rw [← hev]
      rw [← hco] at haw hf d1
      simp only [fpart, part', Tryd.f10, Option.getD]
      simp (maxSteps := 5000000) only [SA, SB, SD, R, guardAt, binP, intP, indexAddrP, elemsOf, readCells, lenP, lenAt, resultsP, resultP, oneOr, reduceCtorEq, reduceIte, Nat.reduceEqDiff, Nat.reduceAdd, Nat.zero_add, Nat.reduceMul, Nat.reduceLT, Nat.reduceLeDiff, Int.reduceLT, Int.reduceNeg, Int.reduceLE, appendP, appendAt, letGo, setLoc, locVal, Int.reduceToNat, boxCells, und, TG, SE, SC, unP, htu, hta, VLf, eqgV, eqVP, loadR, loadP, storeR, storeK, storeCellsP, laid, lay, setBox, List.set_cons_zero, List.set_cons_succ, Nat.le_refl, List.take_succ_cons, List.take_zero, List.drop_nil, List.filter_nil, List.cons_append, Int.reduceBEq, Int.reduceBNe, Int.reduceGT, Int.reduceGE, Bool.not_true, Bool.not_false, haw, hf, hpu, d1, d0']
      exact ⟨_, rfl⟩
end Go.HH
